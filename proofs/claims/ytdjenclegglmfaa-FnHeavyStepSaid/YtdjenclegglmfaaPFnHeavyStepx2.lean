-- Written by a program of this session over the kit's printer, with contracts proved by hand; Lean checks it.
import Derived.Test.YtdjenclegglmfaaPFnHeavyStepx0
import Derived.Test.YtdjenclegglmfaaPFnHeavyStepx1
namespace Go.Proofs.Ytdjenclegglmfaa.PFnHeavyStep
open Go.RowKit Go.Proofs.YtdjenclegglmfaaW.PrintWords Go.Proofs.YtdjenclegglmfaaW.PrintLast Go.Proofs.YtdjenclegglmfaaW.PrintMore
attribute [local go_sem] max2_int min2_int max_two min_two max_three min_three max_four min_four   -- for this text's walks alone
set_option linter.unusedVariables false
set_option linter.unusedSimpArgs false

/-! ### impl_WordsOk_1: function 75 -/
def badW (s : ByteArray) : Bool := !(decide (s.size = 3)) || !pfx s 3
theorem badW_calls (s : ByteArray) (w : World) (hs : s.size ≤ 140737488351232) :
    Calls Try.prog 42 #[.string s] w fun e w' => e = .returned (.bool (badW s)) ∧ Below w.heap.size w w' := by
  by_cases h3 : s.size = 3
  · have hp := prefixOk_any s 3
    cases hx : pfx s 3
    · rw [hx] at hp
      have hb1 : ((s.size : Int) != 3) = false := by simp [h3]
      have hz : badW s = true := by unfold badW; rw [hx]; simp
      rw [hz]
      have HP := Go.Lib.hid hp
      clear hp hx hz h3
      go_enter Try.func42, Try.ntmps42
      go_wp2_with (go_at_call 43; refine (HP.out _ hs).mono ?_; rintro e w' ⟨rfl, hb⟩)
      go_ret
      exact ⟨rfl, hb⟩
    · rw [hx] at hp
      have hb1 : ((s.size : Int) != 3) = false := by simp [h3]
      have hz : badW s = false := by unfold badW; rw [hx]; simp [h3]
      rw [hz]
      have HP := Go.Lib.hid hp
      clear hp hx hz h3
      go_enter Try.func42, Try.ntmps42
      go_wp2_with (go_at_call 43; refine (HP.out _ hs).mono ?_; rintro e w' ⟨rfl, hb⟩)
      go_ret
      exact ⟨rfl, hb⟩
  · have hb1 : ((s.size : Int) != 3) = true := by rw [bne_iff_ne]; omega
    have hz : badW s = true := by unfold badW; simp [h3]
    rw [hz]
    clear hz h3
    go_enter Try.func42, Try.ntmps42
    go_wp2
    go_ret
    exact ⟨rfl, Below.refl _ _⟩
set_option maxHeartbeats 1000000 in
theorem anyW (A : Option Addr) (c : Nat) (l : List ByteArray) (w : World) (hr : Kd.C Kd.string w A l.length l) (hs : ∀ s ∈ l, s.size ≤ 140737488351232) :
   Calls Try.prog 41 #[.slice A l.length c, .func (.func 42) #[] #[]] w fun e w' => e = .returned (.bool (l.any badW)) ∧ Below w.heap.size w w' := by
  have hlen : l.length ≤ 9223372036854775807 := hr.2.1
  have HR := Go.Lib.hid hr
  have HS := Go.Lib.hid hs
  clear hr hs
  go_enter Try.func41, Try.ntmps41
  go_wp2
  go_loopw [8] (fun v8 w' => ∃ k : Nat, k ≤ l.length ∧ v8 = .int .i64 k ∧ (l.take k).any badW = false ∧ Below w.heap.size w w') (fun v8 _ => l.length - (intOf v8).toNat)
  case atStart => exact ⟨0, by omega, rfl, by simp, Below.refl _ _⟩
  case round =>
    obtain ⟨k, hk, rfl, hall, hb⟩ := hrel
    have HA := Go.Lib.hid hall
    clear hall
    by_cases hlt : k < l.length
    · obtain ⟨ad, hA, hc⟩ := C_get (Kd.C_below HR.out hb) hlt
      subst hA
      have hsz : (l.getD k ByteArray.empty).size ≤ 140737488351232 := by
        rw [List.getD_eq_getElem?_getD, List.getElem?_eq_getElem hlt]
        exact HS.out _ (List.getElem_mem hlt)
      have HT := Go.Lib.hid (any_take_succ badW l ByteArray.empty hlt)
      have HG := Go.Lib.hid (any_of_get badW l ByteArray.empty hlt)
      generalize l.getD k ByteArray.empty = s at *
      have hcall := badW_calls s
      cases hp : badW s
      · rw [hp] at hcall
        have HP := Go.Lib.hid hp
        have HCA := Go.Lib.hid hcall
        clear hp hcall
        go_wp2_with (go_at_call 42; refine (HCA.out _ hsz).mono ?_; rintro e w' ⟨rfl, hb2⟩)
        go_roundw
        case rel => exact ⟨k + 1, by omega, by go_num, by rw [HT.out, HA.out, HP.out]; rfl, hb.trans (hb2.mono hb.size)⟩
        case measure => simp [intOf]; omega
      · rw [hp] at hcall
        have HX := Go.Lib.hid (HG.out hp)
        have HCA := Go.Lib.hid hcall
        clear hp hcall
        go_wp2_with (go_at_call 42; refine (HCA.out _ hsz).mono ?_; rintro e w' ⟨rfl, hb2⟩)
        go_ret
        exact ⟨by rw [HX.out]; rfl, hb.trans (hb2.mono hb.size)⟩
    · have hk2 : k = l.length := by omega
      have hx : l.any badW = false := by
        have := HA.out
        rwa [List.take_of_length_le (by omega)] at this
      have HX := Go.Lib.hid hx
      clear hx HA
      subst hk2
      go_wp2
      go_ret
      exact ⟨by rw [HX.out]; rfl, hb⟩
def impl_WordsOk_1.f (l0 : List ByteArray) : Option Bool := if ∀ s ∈ l0, s.size ≤ 140737488351232 then some (l0.any badW) else none
theorem impl_WordsOk_1.calls (A0 : Option Addr) (c0 : Nat) (l0 : List ByteArray) (r : Bool) (w : World) (hr0 : Kd.C Kd.string w A0 l0.length l0) (hc0 : l0.length ≤ c0) (h : impl_WordsOk_1.f l0 = some r) :
    Calls Try.prog 41 #[.slice A0 l0.length c0, .func (.func 42) #[] #[]] w fun e w' => e = .returned (.bool r) ∧ Below w.heap.size w w' := by
  unfold impl_WordsOk_1.f at h
  split at h
  · obtain rfl := Option.some.inj h
    exact anyW A0 c0 l0 w hr0 ‹_›
  · cases h

/-! ### impl_WordsOk: function 21 -/
def impl_WordsOk.f (l0 : List ByteArray) : Option (Bool) := if (l0.length : Int) ≤ 12 then ((impl_WordsOk_1.f l0).bind fun t117 => (some (!t117))) else (some false)
set_option maxHeartbeats 8000000 in
set_option maxRecDepth 100000 in
theorem impl_WordsOk.calls (A0 : Option Addr) (c0 : Nat) (l0 : List ByteArray) (r : Bool) (w : World) (hr0 : Kd.C Kd.string w A0 l0.length l0) (hc0 : l0.length ≤ c0) (h : impl_WordsOk.f l0 = some r) :
    Calls Try.prog 21 #[.slice A0 l0.length c0] w fun e w' => e = .returned (.bool r) ∧ Below w.heap.size w w' := by
  have HR0 := Aside0.mk hr0
  have HC0 := Aside0.mk hc0
  clear hr0 hc0
  have HB := Aside0.mk (Below.refl w.heap.size w)
  have H : (if (l0.length : Int) ≤ 12 then ((impl_WordsOk_1.f l0).bind fun t117 => (some (!t117))) else (some false)) = some r := h
  clear h
  by_cases c2 : (l0.length : Int) ≤ 12
  · rw [if_pos c2] at H
    have c2b0 : decide ((l0.length : Int) ≤ 12) = true := decide_eq_true c2
    have c2b1 : decide (l0.length ≤ 12) = true := decide_eq_true (by omega)
    clear c2
    replace H := Option.bind_eq_some_iff.mp H
    obtain ⟨t117, A30, H⟩ := H
    replace H : (some (!t117)) = some r := H
    have A3 := Aside0.mk A30
    clear A30
    obtain rfl := Option.some.inj H
    go_enter Try.func21, Try.ntmps21
    go_wp2_with (first | (go_at_call 41; (with_reducible refine (impl_WordsOk_1.calls _ _ l0 t117 _ ?side1 ?side2 A3.out).mono ?_); (case side1 => repeat (first | exact HR0.out | (with_reducible refine Kd.C_alloc ?_ _) | (with_reducible refine Kd.C_drewN ?_ _) | (with_reducible refine Kd.C_drew ?_))); (case side2 => exact HC0.out); rintro e w4 ⟨rfl, hb⟩; have n0_ := Aside0.mk (below_step (by repeat (first | (with_reducible first | exact HB.out | apply below_alloc | apply pw_below_drewN | apply below_drew1) | exact HB.out)) hb); clear HB; have HB := n0_; clear n0_; (try clear hb); (try clear hb2); (try clear hk); (try clear hi)))
    go_ret
    exact ⟨by first | rfl | (simp [errW_none, errW_some] <;> rfl) | (simp [*, errW_none, errW_some] <;> rfl), by repeat (first | (with_reducible first | exact HB.out | apply below_alloc | apply pw_below_drewN | apply below_drew1) | exact HB.out)⟩
  · rw [if_neg c2] at H
    have c2b0 : decide ((l0.length : Int) ≤ 12) = false := decide_eq_false c2
    have c2b1 : decide (l0.length ≤ 12) = false := decide_eq_false (by omega)
    clear c2
    obtain rfl := Option.some.inj H
    go_enter Try.func21, Try.ntmps21
    go_wp2
    go_ret
    exact ⟨by first | rfl | (simp [errW_none, errW_some] <;> rfl) | (simp [*, errW_none, errW_some] <;> rfl), by repeat (first | (with_reducible first | exact HB.out | apply below_alloc | apply pw_below_drewN | apply below_drew1) | exact HB.out)⟩

/-! ### impl_treeOf: function 52 -/
theorem h_cell {w : World} {b : Nat} {cs : Array Value} {T : TypeId} {fr : Nat × Nat} (hb : w.heap[b]? = some (.cells cs T fr)) (j : Nat) : w.cell? ⟨b, j, none⟩ = cs[j]? := by simp [World.cell?, hb]
theorem h_frozen {w : World} {b : Nat} {cs : Array Value} {T : TypeId} (hb : w.heap[b]? = some (.cells cs T (0, 0))) (j : Nat) : w.frozen? ⟨b, j, none⟩ = false := by simp [World.frozen?, hb]
theorem h_set {w : World} {b i : Nat} {cs : Array Value} {T : TypeId} {fr : Nat × Nat} (hb : w.heap[b]? = some (.cells cs T fr)) (v : Value) : (w.setCell ⟨b, i, none⟩ v).heap[b]? = some (.cells (cs.setIfInBounds i v) T fr) := by
  show (w.heap.modify b _)[b]? = _
  rw [Array.getElem?_modify, if_pos rfl, hb]
  rfl
abbrev Pre := List UInt8
def kid (m c : Pre → Nat) (p : Pre) (b : UInt8) : Option Addr := if 0 < c (p ++ [b]) then some ⟨m (p ++ [b]), 0, none⟩ else none
def live (c : Pre → Nat) (p : Pre) : Prop := p = [] ∨ 0 < c p
def knot (m c : Pre → Nat) (p : Pre) : Obj := .cells #[.int .i64 (c p : Nat), .pointer (kid m c p 97), .pointer (kid m c p 98)] 62 (0, 0)
structure Tree (w : World) (B : Nat) (m c : Pre → Nat) : Prop where
  node : ∀ p, live c p → B ≤ m p ∧ w.heap[m p]? = some (knot m c p)
  inj : ∀ p q, live c p → live c q → m p = m q → p = q
  closed : ∀ q x, 0 < c (q ++ [x]) → live c q
  small : ∀ p, c p ≤ 100
theorem Tree.dead {w : World} {B : Nat} {m c : Pre → Nat} (h : Tree w B m c) {p : Pre} (hp : ¬ live c p) (q : Pre) : ¬ live c (p ++ q) := by
  induction q generalizing p with
  | nil => simpa using hp
  | cons x q ih =>
    have h2 : ¬ live c (p ++ [x]) := by
      rintro (h3 | h3)
      · simp at h3
      · exact hp (h.closed _ _ h3)
    have := ih h2
    simpa using this
theorem lt_heap {w : World} {g : Nat} {o : Obj} (hg : w.heap[g]? = some o) : g < w.heap.size := (Array.getElem?_eq_some_iff.1 hg).1
theorem Tree.below {w w' : World} {B : Nat} {m c : Pre → Nat} (h : Tree w B m c) {N : Nat} (hN : w.heap.size ≤ N) (hb : Below N w w') : Tree w' B m c :=
  ⟨fun p hp => by
    obtain ⟨h1, h2⟩ := h.node p hp
    exact ⟨h1, by rw [hb.block _ (by have := lt_heap h2; omega)]; exact h2⟩, h.inj, h.closed, h.small⟩
theorem Tree.c0 {w : World} {B : Nat} {m c : Pre → Nat} (h : Tree w B m c) {p : Pre} (hp : live c p) : w.cell? ⟨m p, 0, none⟩ = some (.int .i64 (c p : Nat)) := by
  rw [h_cell (h.node p hp).2]; rfl
theorem Tree.c1 {w : World} {B : Nat} {m c : Pre → Nat} (h : Tree w B m c) {p : Pre} (hp : live c p) : w.cell? ⟨m p, 1, none⟩ = some (.pointer (kid m c p 97)) := by
  rw [h_cell (h.node p hp).2]; rfl
theorem Tree.c2 {w : World} {B : Nat} {m c : Pre → Nat} (h : Tree w B m c) {p : Pre} (hp : live c p) : w.cell? ⟨m p, 2, none⟩ = some (.pointer (kid m c p 98)) := by
  rw [h_cell (h.node p hp).2]; rfl
theorem take_snoc {l : List UInt8} {k : Nat} (h : k < l.length) : l.take (k + 1) = l.take k ++ [l.getD k 0] := by
  rw [List.getD_eq_getElem?_getD, List.getElem?_eq_getElem h, Option.getD_some, List.take_append_getElem h]
theorem ab_get {l : List UInt8} (h : l.all ab = true) {k : Nat} (hk : k < l.length) : l.getD k 0 = 97 ∨ l.getD k 0 = 98 := by
  rw [List.getD_eq_getElem?_getD, List.getElem?_eq_getElem hk, Option.getD_some]
  have := List.all_eq_true.1 h _ (List.getElem_mem hk)
  simpa [ab] using this

set_option maxHeartbeats 1000000 in
theorem count_calls (s : ByteArray) (w : World) (hs : s.size ≤ 140737488351232) {B : Nat} {m c : Pre → Nat} (hT : Tree w B m c) (ha : s.data.toList.all ab = true) :
    Calls Try.prog 53 #[.pointer (some ⟨m [], 0, none⟩), .string s] w fun e w' => e = .returned (.int .i64 (c s.data.toList : Nat)) ∧ Below w.heap.size w w' := by
  have hcv := fun W : World => Lib.run_convert_string_bytes (P := Try.prog) W 9 27 5 s Try.underlying9 Try.underlying27 Try.underlying5
  have hb := below_bytes w 5 s
  have hcell := Lib.bytesWorld_cell w 5 s
  have hT1 := hT.below (Nat.le_refl _) hb
  have HT := Go.Lib.hid hT1
  have HC := Go.Lib.hid hcell
  have HA := Go.Lib.hid ha
  clear hcell ha hT hT1
  have hlen : s.data.toList.length = s.size := by simp
  go_enter Try.func53, Try.ntmps53
  go_wp2
  go_loop [10, 0] (fun v10 v0 => ∃ k : Nat, k ≤ s.size ∧ v10 = .int .i64 k ∧ live c (s.data.toList.take k) ∧ v0 = .pointer (some ⟨m (s.data.toList.take k), 0, none⟩)) (fun v10 _ => s.size - (intOf v10).toNat)
  case atStart => exact ⟨0, by omega, rfl, .inl rfl, rfl⟩
  case round =>
    obtain ⟨k, hk, rfl, hl, rfl⟩ := hrel
    by_cases hlt : k < s.size
    · have hc := HC.out k hlt
      have hc1 := HT.out.c1 hl
      have hc2 := HT.out.c2 hl
      have HTK := Go.Lib.hid (take_snoc (l := s.data.toList) (k := k) (by omega))
      have HD := Go.Lib.hid (fun (x : UInt8) (h0 : ¬ 0 < c (s.data.toList.take k ++ [x])) (hx : s.data.toList.getD k 0 = x) => show c s.data.toList = 0 by
        have h1 : ¬ live c (s.data.toList.take (k + 1)) := by
          rintro (h | h)
          · have := congrArg List.length h
            rw [List.length_take, List.length_nil] at this
            omega
          · rw [take_snoc (by omega), hx] at h
            exact h0 h
        have h2 := HT.out.dead h1 (s.data.toList.drop (k + 1))
        rw [List.take_append_drop] at h2
        have : ¬ 0 < c s.data.toList := fun h => h2 (.inr h)
        omega)
      have HV := Go.Lib.hid hl
      rcases ab_get HA.out (k := k) (by omega) with hx | hx
      · rw [hx] at hc HTK
        have HD := Go.Lib.hid (fun h0 => HD.out 97 h0 hx)
        have HX := Go.Lib.hid hx
        clear hx hl
        unfold kid at hc1
        by_cases h1 : 0 < c (s.data.toList.take k ++ [97])
        · rw [if_pos h1] at hc1
          clear hc2
          go_wp2
          go_round
          case rel => exact ⟨k + 1, by omega, by go_num, by rw [HTK.out]; exact .inr h1, by rw [HTK.out]⟩
          case measure => simp [intOf]; omega
        · rw [if_neg h1] at hc1
          clear hc2
          go_wp2
          go_ret
          exact ⟨by rw [HD.out h1]; rfl, hb⟩
      · rw [hx] at hc HTK
        have HD := Go.Lib.hid (fun h0 => HD.out 98 h0 hx)
        have HX := Go.Lib.hid hx
        clear hx hl
        unfold kid at hc2
        by_cases h1 : 0 < c (s.data.toList.take k ++ [98])
        · rw [if_pos h1] at hc2
          clear hc1
          go_wp2
          go_round
          case rel => exact ⟨k + 1, by omega, by go_num, by rw [HTK.out]; exact .inr h1, by rw [HTK.out]⟩
          case measure => simp [intOf]; omega
        · rw [if_neg h1] at hc2
          clear hc1
          go_wp2
          go_ret
          exact ⟨by rw [HD.out h1]; rfl, hb⟩
    · have hk2 : k = s.size := by omega
      subst hk2
      have e : s.data.toList.take s.size = s.data.toList := List.take_of_length_le (by omega)
      rw [e] at hl ⊢
      have hc0 := HT.out.c0 hl
      have HV := Go.Lib.hid hl
      clear hl e
      go_wp2
      go_ret
      exact ⟨rfl, hb⟩
def cnt (l : List ByteArray) (p : Pre) : Nat := l.countP fun s => p.isPrefixOf s.data.toList
def part (c : Pre → Nat) (s : Pre) (k : Nat) (p : Pre) : Nat := c p + if p.length ≤ k ∧ p <+: s then 1 else 0
def bump (c : Pre → Nat) (p q : Pre) : Nat := if q = p then c q + 1 else c q
theorem part_zero (c : Pre → Nat) (s : Pre) : part c s 0 = bump c [] := by
  funext p
  unfold part bump
  by_cases h : p = []
  · subst h; simp
  · rw [if_neg h, if_neg (fun x => h (List.eq_nil_of_length_eq_zero (by omega)))]
    rfl
theorem part_succ (c : Pre → Nat) (s : Pre) (k : Nat) (hk : k < s.length) : part c s (k + 1) = bump (part c s k) (s.take (k + 1)) := by
  funext p
  unfold part bump
  by_cases h : p = s.take (k + 1)
  · subst h
    have h1 : s.take (k + 1) <+: s := List.take_prefix _ _
    have h2 : (s.take (k + 1)).length = k + 1 := by rw [List.length_take]; omega
    dsimp only
    rw [if_pos ⟨by omega, h1⟩, if_pos rfl, if_neg (fun x => by omega)]
  · rw [if_neg h]
    congr 1
    by_cases h1 : p.length ≤ k ∧ p <+: s
    · rw [if_pos h1, if_pos ⟨by omega, h1.2⟩]
    · rw [if_neg h1, if_neg]
      rintro ⟨h2, h3⟩
      apply h1
      refine ⟨?_, h3⟩
      have h4 := List.prefix_iff_eq_take.1 h3
      by_cases h5 : p.length = k + 1
      · rw [h5] at h4; exact absurd h4 h
      · omega
theorem part_all (l : List ByteArray) (s : ByteArray) (k : Nat) (hk : s.data.toList.length ≤ k) : part (cnt l) s.data.toList k = cnt (l ++ [s]) := by
  funext p
  unfold part cnt
  rw [List.countP_append]
  congr 1
  simp only [List.countP_cons, List.countP_nil, List.isPrefixOf_iff_prefix]
  by_cases h : p <+: s.data.toList
  · have := h.length_le
    rw [if_pos ⟨by omega, h⟩, if_pos h]
  · rw [if_neg (fun x => h x.2), if_neg h]
theorem live_bump {c : Pre → Nat} {p q : Pre} : live (bump c p) q ↔ live c q ∨ q = p := by
  unfold live bump
  by_cases h : q = p
  · subst h; simp
  · rw [if_neg h]; simp [h]
theorem kid_bump {m c : Pre → Nat} {p : Pre} (hp : live c p) (q : Pre) (b : UInt8) : kid m (bump c p) q b = kid m c q b := by
  unfold kid bump
  by_cases h : q ++ [b] = p
  · have h2 : 0 < c (q ++ [b]) := by
      rw [h]
      rcases hp with hp | hp
      · rw [hp] at h; simp at h
      · exact hp
    rw [if_pos h, if_pos (by omega), if_pos h2]
  · rw [if_neg h]
theorem Tree.up {w : World} {B : Nat} {m c : Pre → Nat} (h : Tree w B m c) {p : Pre} (hp : live c p) (hc : c p < 100) : Tree (w.setCell ⟨m p, 0, none⟩ (.int .i64 ((c p : Nat) + 1))) B m (bump c p) := by
  have hl : ∀ q, live (bump c p) q → live c q := fun q hq => by
    rcases live_bump.1 hq with h1 | rfl
    · exact h1
    · exact hp
  refine ⟨fun q hq => ?_, fun q r hq hr => h.inj q r (hl q hq) (hl r hr), fun q x hq => ?_, fun q => ?_⟩
  · obtain ⟨h1, h2⟩ := h.node q (hl q hq)
    refine ⟨h1, ?_⟩
    by_cases e : q = p
    · subst e
      rw [h_set h2 _]
      unfold knot
      rw [kid_bump hp, kid_bump hp]
      simp [bump]
    · rw [Below.heap_setCell _ _ _ _ (fun e2 => e (h.inj q p (hl q hq) hp e2)), h2]
      unfold knot
      rw [kid_bump hp, kid_bump hp]
      simp [bump, e]
  · have : live c (q ++ [x]) := hl _ (.inr hq)
    refine live_bump.2 (.inl ?_)
    rcases this with h1 | h1
    · simp at h1
    · exact h.closed q x h1
  · unfold bump
    split
    · rename_i e; subst e; omega
    · exact h.small q

def setm (m : Pre → Nat) (P : Pre) (n : Nat) (q : Pre) : Nat := if q = P then n else m q
theorem kid_grow (m c : Pre → Nat) (P : Pre) (n : Nat) (q : Pre) (y : UInt8) : kid (setm m P n) (bump c P) q y = if q ++ [y] = P then some ⟨n, 0, none⟩ else kid m c q y := by
  unfold kid setm bump
  by_cases h : q ++ [y] = P
  · rw [if_pos h, if_pos (by omega), if_pos h, if_pos h]
  · rw [if_neg h, if_neg h, if_neg h]
theorem heap_sa {w : World} {a : Addr} {v : Value} {o : Obj} {b : Nat} (h : b ≠ a.block) (hb : b < w.heap.size) : ((w.setCell a v).alloc o).heap[b]? = w.heap[b]? := by
  rw [Below.heap_alloc _ _ _ (by simpa [World.setCell] using hb), Below.heap_setCell _ _ _ _ h]
theorem heap_new {w : World} {o : Obj} {n : Nat} (h : n = w.heap.size) : (w.alloc o).heap[n]? = some o := by
  subst h
  show (w.heap.push o)[w.heap.size]? = _
  rw [Array.getElem?_push, if_pos rfl]
theorem cell_of_same {w w' : World} {a : Addr} (h : w'.heap[a.block]? = w.heap[a.block]?) : w'.cell? a = w.cell? a := by
  unfold World.cell?; rw [h]
theorem Tree.grow {w : World} {B : Nat} {m c : Pre → Nat} (h : Tree w B m c) {p : Pre} (hp : live c p) (x : UInt8) (i : Nat) (hx : (x = 97 ∧ i = 1) ∨ (x = 98 ∧ i = 2)) (h0 : ¬ 0 < c (p ++ [x])) (hB : B ≤ w.heap.size) :
    Tree ((w.setCell ⟨m p, i, none⟩ (.pointer (some ⟨w.heap.size, 0, none⟩))).alloc (.cells #[.int .i64 1, .pointer none, .pointer none] 62)) B (setm m (p ++ [x]) w.heap.size) (bump c (p ++ [x])) := by
  have hne : ∀ q, live c q → q ≠ p ++ [x] := fun q hq e => by
    subst e
    rcases hq with hq | hq
    · simp at hq
    · exact h0 hq
  have hlt : ∀ q, live c q → m q < w.heap.size := fun q hq => lt_heap (h.node q hq).2
  have hdead : ¬ live c (p ++ [x]) := fun hq => hne _ hq rfl
  have hsz : (w.setCell ⟨m p, i, none⟩ (.pointer (some ⟨w.heap.size, 0, none⟩))).heap.size = w.heap.size := by simp [World.setCell]
  refine ⟨fun q hq => ?_, fun q r hq hr e => ?_, fun q y hq => ?_, fun q => ?_⟩
  · by_cases e : q = p ++ [x]
    · subst e
      refine ⟨by rw [setm, if_pos rfl]; exact hB, ?_⟩
      rw [setm, if_pos rfl]
      have h1 : ∀ y, kid (setm m (p ++ [x]) w.heap.size) (bump c (p ++ [x])) (p ++ [x]) y = none := fun y => by
        rw [kid_grow, if_neg (by intro e; have := congrArg List.length e; simp at this), kid, if_neg]
        intro h2
        exact hdead (h.closed _ _ h2)
      have h2 : bump c (p ++ [x]) (p ++ [x]) = 1 := by rw [bump, if_pos rfl]; omega
      rw [heap_new hsz.symm]
      unfold knot
      rw [h1, h1, h2]
      rfl
    · have hq : live c q := by
        rcases live_bump.1 hq with h1 | h1
        · exact h1
        · exact absurd h1 e
      obtain ⟨h1, h2⟩ := h.node q hq
      have hm : setm m (p ++ [x]) w.heap.size q = m q := by rw [setm, if_neg e]
      have hcq : bump c (p ++ [x]) q = c q := by rw [bump, if_neg e]
      rw [hm]
      refine ⟨h1, ?_⟩
      by_cases e2 : q = p
      · subst e2
        rw [Below.heap_alloc _ _ _ (by rw [hsz]; exact hlt _ hp), h_set h2 _]
        unfold knot
        rw [kid_grow, kid_grow, hcq]
        rcases hx with ⟨rfl, rfl⟩ | ⟨rfl, rfl⟩
        · rw [if_pos rfl, if_neg (by simp)]; rfl
        · rw [if_pos rfl, if_neg (by simp)]; rfl
      · rw [heap_sa (fun e3 => e2 (h.inj q p hq hp e3)) (hlt q hq), h2]
        unfold knot
        have n1 : ∀ y, q ++ [y] ≠ p ++ [x] := fun y e => e2 (by
          have := congrArg List.dropLast e
          simpa using this)
        rw [kid_grow, kid_grow, if_neg (n1 _), if_neg (n1 _), hcq]
  · have cq : q = p ++ [x] ∨ live c q := by
      rcases live_bump.1 hq with h1 | h1
      · exact .inr h1
      · exact .inl h1
    have cr : r = p ++ [x] ∨ live c r := by
      rcases live_bump.1 hr with h1 | h1
      · exact .inr h1
      · exact .inl h1
    unfold setm at e
    rcases cq with rfl | cq
    · rcases cr with rfl | cr
      · rfl
      · rw [if_pos rfl, if_neg (hne r cr)] at e
        have := hlt r cr
        omega
    · rcases cr with rfl | cr
      · rw [if_pos rfl, if_neg (hne q cq)] at e
        have := hlt q cq
        omega
      · rw [if_neg (hne q cq), if_neg (hne r cr)] at e
        exact h.inj q r cq cr e
  · by_cases e : q ++ [y] = p ++ [x]
    · have := congrArg List.dropLast e
      have : q = p := by simpa using this
      subst this
      exact live_bump.2 (.inl hp)
    · rw [bump, if_neg e] at hq
      exact live_bump.2 (.inl (h.closed q y hq))
  · unfold bump
    split
    · rename_i e; subst e; omega
    · exact h.small q
theorem Tree.start (w : World) : Tree (w.alloc (.cells #[.int .i64 0, .pointer none, .pointer none] 62)) w.heap.size (fun _ => w.heap.size) (cnt []) := by
  have hl : ∀ p, live (cnt []) p → p = [] := fun p hp => by
    rcases hp with h | h
    · exact h
    · simp [cnt] at h
  refine ⟨fun p hp => ?_, fun p q hp hq _ => by rw [hl p hp, hl q hq], fun q x h => by simp [cnt] at h, fun p => by simp [cnt]⟩
  refine ⟨Nat.le_refl _, ?_⟩
  show (w.heap.push _)[w.heap.size]? = _
  rw [Array.getElem?_push, if_pos rfl]
  simp [knot, kid, cnt]
set_option maxHeartbeats 2000000 in
theorem treeOf_calls (A : Option Addr) (cc : Nat) (l : List ByteArray) (w : World) (hr : Kd.C Kd.string w A l.length l) (h12 : l.length ≤ 12) (hs : ∀ s ∈ l, s.size ≤ 140737488351232 ∧ s.data.toList.all ab = true) :
    Calls Try.prog 52 #[.slice A l.length cc] w fun e w' => ∃ m, e = .returned (.pointer (some ⟨m [], 0, none⟩)) ∧ Tree w' w.heap.size m (cnt l) ∧ Below w.heap.size w w' := by
  have HR := Go.Lib.hid hr
  have HS := Go.Lib.hid hs
  clear hr hs
  go_enter Try.func52, Try.ntmps52
  go_wp2
  go_loopw [14] (fun v14 W => ∃ (k : Nat) (m : Pre → Nat), k ≤ l.length ∧ v14 = .int .i64 k ∧ Tree W w.heap.size m (cnt (l.take k)) ∧ m [] = w.heap.size ∧ Below w.heap.size w W) (fun v14 _ => l.length - (intOf v14).toNat)
  case atStart => exact ⟨0, fun _ => w.heap.size, by omega, rfl, Tree.start w, rfl, (Below.refl _ w).alloc (Nat.le_refl _) _⟩
  case round =>
    obtain ⟨k, m, hk, rfl, hT, hm0, hb⟩ := hrel
    by_cases hlt : k < l.length
    · obtain ⟨ad, hA, hc⟩ := C_get (Kd.C_below HR.out hb) hlt
      subst hA
      have hss := HS.out (l.getD k ByteArray.empty) (by rw [List.getD_eq_getElem?_getD, List.getElem?_eq_getElem hlt, Option.getD_some]; exact List.getElem_mem hlt)
      have HTK := Go.Lib.hid (show l.take (k + 1) = l.take k ++ [l.getD k ByteArray.empty] by rw [List.getD_eq_getElem?_getD, List.getElem?_eq_getElem hlt, Option.getD_some, List.take_append_getElem hlt])
      generalize l.getD k ByteArray.empty = s at *
      have hcount : cnt (l.take k) [] ≤ 12 := Nat.le_trans (List.countP_le_length) (by rw [List.length_take]; omega)
      have hc0 := hT.c0 (.inl rfl)
      have hf0 := h_frozen (hT.node [] (.inl rfl)).2 0
      rw [hm0] at hc0 hf0
      have HT := Go.Lib.hid hT
      have hcv := fun W : World => Lib.run_convert_string_bytes (P := Try.prog) W 9 27 5 s Try.underlying9 Try.underlying27 Try.underlying5
      clear hT
      go_wp2
      have hT1 := HT.out.up (p := []) (.inl rfl) (by omega)
      rw [hm0, ← part_zero (cnt (l.take k)) s.data.toList] at hT1
      have hmb : ∀ p, live (part (cnt (l.take k)) s.data.toList 0) p → m p ≠ wr.heap.size := fun p hp => by
        rw [part_zero] at hp
        have hp : live (cnt (l.take k)) p := by
          rcases live_bump.1 hp with h | h
          · exact h
          · exact .inl h
        have := lt_heap (HT.out.node p hp).2
        omega
      generalize hW : (wr.setCell { block := w.heap.size, off := 0 } (Value.int IntKind.i64 (↑(cnt (List.take k l) []) + 1))) = W1 at *
      have hsz : W1.heap.size = wr.heap.size := by rw [← hW]; simp [World.setCell]
      have hb1 : Below w.heap.size w W1 := by rw [← hW]; exact hb.setCell (Nat.le_refl _) _
      clear hW hc0 hf0 hcv hc
      rw [← hsz] at hmb ⊢
      have hTb := hT1.below (Nat.le_refl _) (below_bytes W1 5 s)
      have hb2 := hb1.trans ((below_bytes W1 5 s).mono hb1.size)
      have hbc := Lib.bytesWorld_cell W1 5 s
      have hbz := Lib.bytesWorld_size W1 5 s
      have hlen : s.data.toList.length = s.size := by simp
      generalize Lib.bytesWorld W1 5 s = W2 at *
      generalize W1.heap.size = nb at *
      clear hb hb1 hT1 hsz
      have hs3 := hss.2
      have HA := Go.Lib.hid hss.2
      have hss := hss.1
      have hcount2 : ∀ p, cnt (l.take k) p ≤ 12 := fun p => Nat.le_trans (List.countP_le_length) (by rw [List.length_take]; omega)
      have HCO := Go.Lib.hid hcount2
      have HX := Go.Lib.hid (show ∃ c, c = cnt (l.take k) from ⟨_, rfl⟩)
      clear hcount2 hs3
      go_loopw [29, 6] (fun v29 v6 W => ∃ (j : Nat) (m : Pre → Nat), j ≤ s.size ∧ v29 = .int .i64 j ∧ Tree W w.heap.size m (part (cnt (l.take k)) s.data.toList j) ∧ v6 = .pointer (some ⟨m (s.data.toList.take j), 0, none⟩) ∧ live (part (cnt (l.take k)) s.data.toList j) (s.data.toList.take j) ∧ m [] = w.heap.size ∧ Below w.heap.size w W ∧ (∀ i, i < s.size → W.cell? ⟨nb, i, none⟩ = some (.int .u8 (s.data.toList.getD i 0).toNat)) ∧ nb < W.heap.size ∧ ∀ p, live (part (cnt (l.take k)) s.data.toList j) p → m p ≠ nb) (fun v29 _ _ => s.size - (intOf v29).toNat)
      case atStart => exact ⟨0, m, by omega, rfl, hTb, by rw [List.take_zero, hm0], .inl rfl, hm0, hb2, hbc, by omega, hmb⟩
      case round =>
        clear hTb hmb hm0 hb2 hbc hbz HT m hcount
        obtain ⟨j, m, hj, rfl, hT, rfl, hl, hm0, hb, hbc, hbz, hmb⟩ := hrel
        have HM := Go.Lib.hid hmb
        have HBC := Go.Lib.hid hbc
        clear hmb hbc
        by_cases hjt : j < s.size
        · have hc := HBC.out j hjt
          have hc1 := hT.c1 hl
          have hc2 := hT.c2 hl
          have hTK := take_snoc (l := s.data.toList) (k := j) (by omega)
          have hPS := part_succ (cnt (l.take k)) s.data.toList j (by omega)
          have hf := h_frozen (hT.node _ hl).2
          have hlt := lt_heap (hT.node _ hl).2
          have hle := (hT.node _ hl).1
          have hne := HM.out _ hl
          have HL := Go.Lib.hid hl
          have hfresh : ∀ p, live (part (cnt (l.take k)) s.data.toList j) p → m p ≠ wr.heap.size := fun p hp => by
            have := lt_heap (hT.node p hp).2
            omega
          have HF := Go.Lib.hid hfresh
          have HTT := Go.Lib.hid hT
          have HSM := Go.Lib.hid (fun q => show part (cnt (l.take k)) s.data.toList j q ≤ 13 by unfold part; have := HCO.out q; split <;> omega)
          clear hfresh hT
          rcases ab_get HA.out (k := j) (by omega) with hx | hx
          · have hx : s.data.toList.getD j 0 = 97 := hx
            rw [hx] at hc hTK
            rw [hTK] at hPS
            have HTK := Go.Lib.hid hTK
            have HPS := Go.Lib.hid hPS
            clear hx hl hTK hPS
            unfold kid at hc1
            by_cases h1 : 0 < part (cnt (l.take k)) s.data.toList j (s.data.toList.take j ++ [97])
            · rw [if_pos h1] at hc1
              have h2 := HTT.out.c0 (.inr h1)
              have hf2 := h_frozen (HTT.out.node _ (.inr h1)).2 0
              have hsm := HSM.out (s.data.toList.take j ++ [97])
              have hle2 := (HTT.out.node _ (.inr h1)).1
              have hne2 := HM.out _ (.inr h1)
              have H1 := Go.Lib.hid h1
              clear hc2 h1
              go_wp2
              go_roundw
              case rel =>
                refine ⟨j + 1, m, by omega, by go_num, ?_, by rw [HTK.out], ?_, hm0, hb.setCell hle2 _, fun i hi => ?_, by simpa [World.setCell] using hbz, fun q hq => ?_⟩
                · rw [HPS.out]
                  exact HTT.out.up (.inr H1.out) (by omega)
                · rw [HPS.out, HTK.out]
                  exact live_bump.2 (.inr rfl)
                · rw [cell_of_same (Below.heap_setCell _ _ _ _ (fun e => hne2 e.symm))]
                  exact HBC.out i hi
                · rw [HPS.out] at hq
                  rcases live_bump.1 hq with h1 | h1
                  · exact HM.out q h1
                  · rw [h1]; exact hne2
              case measure => simp [intOf]; omega
            · rw [if_neg h1] at hc1
              have H1 := Go.Lib.hid h1
              clear hc2 h1
              go_wp2
              go_roundw
              case rel =>
                refine ⟨j + 1, setm m (s.data.toList.take j ++ [97]) wr.heap.size, by omega, by go_num, ?_, by rw [HTK.out, setm, if_pos rfl], ?_, by rw [setm, if_neg (by simp)]; exact hm0, (hb.setCell hle _).alloc (by simpa [World.setCell] using hb.size) _, fun i hi => ?_, by simp [World.setCell]; omega, fun q hq => ?_⟩
                · rw [HPS.out]
                  exact HTT.out.grow HL.out 97 1 (by decide) H1.out hb.size
                · rw [HPS.out, HTK.out]
                  exact live_bump.2 (.inr rfl)
                · rw [cell_of_same (heap_sa (fun e => hne e.symm) hbz)]
                  exact HBC.out i hi
                · rw [HPS.out] at hq
                  unfold setm
                  split
                  · omega
                  · rcases live_bump.1 hq with h1 | h1
                    · exact HM.out q h1
                    · contradiction
              case measure => simp [intOf]; omega
          · have hx : s.data.toList.getD j 0 = 98 := hx
            rw [hx] at hc hTK
            rw [hTK] at hPS
            have HTK := Go.Lib.hid hTK
            have HPS := Go.Lib.hid hPS
            clear hx hl hTK hPS
            unfold kid at hc2
            by_cases h1 : 0 < part (cnt (l.take k)) s.data.toList j (s.data.toList.take j ++ [98])
            · rw [if_pos h1] at hc2
              have h2 := HTT.out.c0 (.inr h1)
              have hf2 := h_frozen (HTT.out.node _ (.inr h1)).2 0
              have hsm := HSM.out (s.data.toList.take j ++ [98])
              have hle2 := (HTT.out.node _ (.inr h1)).1
              have hne2 := HM.out _ (.inr h1)
              have H1 := Go.Lib.hid h1
              clear hc1 h1
              go_wp2
              go_roundw
              case rel =>
                refine ⟨j + 1, m, by omega, by go_num, ?_, by rw [HTK.out], ?_, hm0, hb.setCell hle2 _, fun i hi => ?_, by simpa [World.setCell] using hbz, fun q hq => ?_⟩
                · rw [HPS.out]
                  exact HTT.out.up (.inr H1.out) (by omega)
                · rw [HPS.out, HTK.out]
                  exact live_bump.2 (.inr rfl)
                · rw [cell_of_same (Below.heap_setCell _ _ _ _ (fun e => hne2 e.symm))]
                  exact HBC.out i hi
                · rw [HPS.out] at hq
                  rcases live_bump.1 hq with h1 | h1
                  · exact HM.out q h1
                  · rw [h1]; exact hne2
              case measure => simp [intOf]; omega
            · rw [if_neg h1] at hc2
              have H1 := Go.Lib.hid h1
              clear hc1 h1
              go_wp2
              go_roundw
              case rel =>
                refine ⟨j + 1, setm m (s.data.toList.take j ++ [98]) wr.heap.size, by omega, by go_num, ?_, by rw [HTK.out, setm, if_pos rfl], ?_, by rw [setm, if_neg (by simp)]; exact hm0, (hb.setCell hle _).alloc (by simpa [World.setCell] using hb.size) _, fun i hi => ?_, by simp [World.setCell]; omega, fun q hq => ?_⟩
                · rw [HPS.out]
                  exact HTT.out.grow HL.out 98 2 (by decide) H1.out hb.size
                · rw [HPS.out, HTK.out]
                  exact live_bump.2 (.inr rfl)
                · rw [cell_of_same (heap_sa (fun e => hne e.symm) hbz)]
                  exact HBC.out i hi
                · rw [HPS.out] at hq
                  unfold setm
                  split
                  · omega
                  · rcases live_bump.1 hq with h1 | h1
                    · exact HM.out q h1
                    · contradiction
              case measure => simp [intOf]; omega
        · have hj2 : j = s.size := by omega
          subst hj2
          have hPA := part_all (l.take k) s s.size (by omega)
          have HPA := Go.Lib.hid hPA
          have HT := Go.Lib.hid hT
          clear hPA hT hl
          go_wp2
          go_roundw
          case rel => exact ⟨k + 1, m, by omega, by go_num, by rw [HTK.out, ← HPA.out]; exact HT.out, hm0, hb⟩
          case measure => simp [intOf]; omega
    · have hk2 : k = l.length := by omega
      subst hk2
      rw [List.take_of_length_le (by omega)] at hT
      have HT := Go.Lib.hid hT
      clear hT
      go_wp2
      go_ret
      exact ⟨m, by rw [hm0]; rfl, HT.out, hb⟩
theorem words_of {l : List ByteArray} (h : impl_WordsOk.f l = some true) : l.length ≤ 12 ∧ ∀ s ∈ l, s.size ≤ 140737488351232 ∧ s.data.toList.all ab = true := by
  unfold impl_WordsOk.f at h
  split at h
  · rename_i h12
    unfold impl_WordsOk_1.f at h
    split at h
    · rename_i hs
      have h := Option.some.inj h
      have h : l.any badW = false := by simpa using h
      refine ⟨by omega, fun s hm => ⟨hs s hm, ?_⟩⟩
      have h2 := List.any_eq_false.1 h s hm
      simp only [badW, pfx, Bool.or_eq_true, Bool.not_eq_true', not_or, Bool.not_eq_true, Bool.not_eq_false] at h2
      have h3 := h2.2
      simp at h3
      simpa using h3.1
    · cases h
  · cases h

/-! ### impl_branch_count: function 53 -/
-- count_calls stands with treeOf.

/-! ### impl_HeavyMany: function 31 -/
def impl_HeavyMany.f (a0 : List ByteArray) (a1 : ByteArray) : Option Int := (impl_WordsOk.f a0).bind fun t => if t = true then (if a1.size ≤ 140737488351232 then (if pfx a1 3 = true then some ((cnt a0 a1.data.toList : Nat) : Int) else some (-1)) else none) else some (-1)
set_option maxHeartbeats 1000000 in
theorem impl_HeavyMany.calls (A0 : Option Addr) (c0 : Nat) (l0 : List ByteArray) (a1 : ByteArray) (r : Int) (w : World) (hr0 : Kd.C Kd.string w A0 l0.length l0) (hc0 : l0.length ≤ c0) (h : impl_HeavyMany.f l0 a1 = some r) :
    Calls Try.prog 31 #[.slice A0 l0.length c0, .string a1] w fun e w' => e = .returned (.int .i64 r) ∧ Below w.heap.size w w' := by
  unfold impl_HeavyMany.f at h
  obtain ⟨t, ht, h⟩ := Option.bind_eq_some_iff.1 h
  have HW := Go.Lib.hid ht
  have HR := Go.Lib.hid hr0
  have HC := Go.Lib.hid hc0
  clear hr0 hc0
  cases t
  · rw [if_neg (by decide)] at h
    obtain rfl := Option.some.inj h
    clear h ht
    go_enter Try.func31, Try.ntmps31
    go_wp2_with (go_at_call 21; refine (impl_WordsOk.calls A0 c0 l0 false _ HR.out HC.out HW.out).mono ?_; rintro e w' ⟨rfl, hb⟩)
    go_ret
    exact ⟨rfl, hb⟩
  · rw [if_pos rfl] at h
    obtain ⟨h12, hs⟩ := words_of ht
    have HS := Go.Lib.hid hs
    clear hs ht
    split at h
    · rename_i hsz
      cases hp : pfx a1 3
      · rw [hp, if_neg (by decide)] at h
        obtain rfl := Option.some.inj h
        have HP := Go.Lib.hid (fun W => prefixOk_any a1 3 W hsz)
        rw [hp] at HP
        clear h hp
        go_enter Try.func31, Try.ntmps31
        go_wp2_with (first | (go_at_call 21; refine (impl_WordsOk.calls A0 c0 l0 true _ HR.out HC.out HW.out).mono ?_; rintro e w' ⟨rfl, hb⟩) | (go_at_call 43; refine (HP.out _).mono ?_; rintro e w'' ⟨rfl, hb2⟩))
        go_ret
        exact ⟨rfl, hb.trans (hb2.mono hb.size)⟩
      · rw [hp, if_pos rfl] at h
        obtain rfl := Option.some.inj h
        have HP := Go.Lib.hid (fun W => prefixOk_any a1 3 W hsz)
        rw [hp] at HP
        have hall : a1.data.toList.all ab = true := by
          unfold pfx at hp
          exact (Bool.and_eq_true _ _ ▸ hp).1
        have HA := Go.Lib.hid hall
        clear h hp hall
        go_enter Try.func31, Try.ntmps31
        go_wp2_with (first | (go_at_call 21; refine (impl_WordsOk.calls A0 c0 l0 true _ HR.out HC.out HW.out).mono ?_; rintro e w' ⟨rfl, hb⟩) | (go_at_call 43; refine (HP.out _).mono ?_; rintro e w'' ⟨rfl, hb2⟩; replace hb := hb.trans (hb2.mono hb.size)) | (go_at_call 52; refine (treeOf_calls A0 c0 l0 _ (Kd.C_below HR.out hb) h12 HS.out).mono ?_; rintro e w3 ⟨m, rfl, hT, hb3⟩; replace hT := Go.Lib.hid hT; replace hb := hb.trans (hb3.mono hb.size)) | (go_at_call 53; refine (count_calls a1 _ hsz hT.out HA.out).mono ?_; rintro e w4 ⟨rfl, hb4⟩; replace hb := hb.trans (hb4.mono hb.size)))
        go_ret
        exact ⟨rfl, hb⟩
    · cases h

/-- A state of type 59 at block g of W; what its slices lead to came in by w0. -/
def IsS59 (w0 W : World) (g : Nat) (f0 : List Int) (f1 : Int) : Prop := ∃ A0 c0, W.heap[g]? = some (.cells #[.slice A0 f0.length c0, .int .i64 f1] 59 (0, 0)) ∧ w0.heap.size ≤ g ∧ Kd.C (Kd.int .u8) w0 A0 f0.length f0
theorem IsS59.grown {w0 W : World} {g : Nat} {f0 : List Int} {f1 : Int} {W1 : World} {row : Option Nat} (h : IsS59 w0 W g f0 f1) (hw : W.grownBy W1 row) (hne : some g ≠ row) : IsS59 w0 W1 g f0 f1 := by
  obtain ⟨A0, c0, hb, hg, hr0⟩ := h
  exact ⟨A0, c0, blk_grown hb hw hne, hg, hr0⟩
theorem IsS59.own_neN {w0 W : World} {g : Nat} {f0 : List Int} {f1 : Int} {α : Type} {d : Kd α} {e : Nat} {base : Nat} {ok : Nat → Prop} {v : Value} {xs : List α} (h : IsS59 w0 W g f0 f1) (ho : Kd.N d e W base ok v xs) (ht : e ≠ 59) : some g ≠ v.ownBlock := by
  obtain ⟨A0, c0, hb, hg, hr0⟩ := h
  exact Kd.N_ne ho hb ht
theorem IsS59.fresh {w0 W : World} {g : Nat} {f0 : List Int} {f1 : Int} (h : IsS59 w0 W g f0 f1) : ∀ k, W.heap.size ≤ k → k ≠ g := by
  obtain ⟨A0, c0, hb, hg, hr0⟩ := h
  exact Kd.freshB hb
theorem IsS59.kept {w0 W : World} {g : Nat} {f0 : List Int} {f1 : Int} {W1 : World} {S : Nat → Prop} (h : IsS59 w0 W g f0 f1) (hk : Kept W W1 S) (hne : ¬ S g) : IsS59 w0 W1 g f0 f1 := by
  obtain ⟨A0, c0, hb, hg, hr0⟩ := h
  exact ⟨A0, c0, blk_kept hb hk hne, hg, hr0⟩
theorem IsS59.below {w0 W : World} {g : Nat} {f0 : List Int} {f1 : Int} {W1 : World} (h : IsS59 w0 W g f0 f1) (hw : Below W.heap.size W W1) : IsS59 w0 W1 g f0 f1 := h.grown (grown_of_below hw none) (by simp)
theorem IsS59.alloc {w0 W : World} {g : Nat} {f0 : List Int} {f1 : Int} (h : IsS59 w0 W g f0 f1) (o : Obj) : IsS59 w0 (W.alloc o) g f0 f1 := h.below (below_alloc (Below.refl _ _) o)
theorem IsS59.drewN {w0 W : World} {g : Nat} {f0 : List Int} {f1 : Int} (h : IsS59 w0 W g f0 f1) (m : Nat) : IsS59 w0 (W.drewN m) g f0 f1 := h
theorem IsS59.drew {w0 W : World} {g : Nat} {f0 : List Int} {f1 : Int} (h : IsS59 w0 W g f0 f1) : IsS59 w0 W.drew g f0 f1 := h
theorem IsS59.at_ {w0 W : World} {g : Nat} {f0 : List Int} {f1 : Int} {w' : World} {m : Nat} (hq : W.drewN m = w') (h : IsS59 w0 W g f0 f1) : IsS59 w0 w' g f0 f1 := by subst hq; exact IsS59.drewN h m
theorem IsS59.apart {w0 W : World} {g : Nat} {f0 : List Int} {f1 : Int} {α : Type} {d : Kd α} {e : Nat} {base : Nat} {ok : Nat → Prop} {v : Value} {xs : List α} (h : IsS59 w0 W g f0 f1) (ho : d.R e W base ok v xs) (ht : ∀ q, q ∈ e :: d.E → q ≠ 59) : d.R e W base (fun k => ok k ∧ k ≠ g) v xs := by
  obtain ⟨A0, c0, hb, hg, hr0⟩ := h
  exact Kd.R_types ho hb ht
theorem IsS59.own_ne {w0 W : World} {g : Nat} {f0 : List Int} {f1 : Int} {α : Type} {d : Kd α} {e : Nat} {base : Nat} {ok : Nat → Prop} {v : Value} {xs : List α} (h : IsS59 w0 W g f0 f1) (ho : d.R e W base ok v xs) (ht : e ≠ 59) : some g ≠ v.ownBlock := by
  obtain ⟨A0, c0, hb, hg, hr0⟩ := h
  exact Kd.R_ne ho hb ht
theorem IsS59.apartQ {w0 W : World} {g : Nat} {f0 : List Int} {f1 : Int} {α : Type} {d : Kd α} {e : Nat} {base : Nat} {ok : Nat → Prop} {v : Value} {xs : List α} (h : IsS59 w0 W g f0 f1) (ho : d.Q e W base ok v xs) (ht : ∀ q, q ∈ e :: d.E → q ≠ 59) : d.Q e W base (fun k => ok k ∧ k ≠ g) v xs := by
  obtain ⟨A0, c0, hb, hg, hr0⟩ := h
  exact Kd.Q_types ho hb ht
theorem IsS59.own_neQ {w0 W : World} {g : Nat} {f0 : List Int} {f1 : Int} {α : Type} {d : Kd α} {e : Nat} {base : Nat} {ok : Nat → Prop} {v : Value} {xs : List α} (h : IsS59 w0 W g f0 f1) (ho : d.Q e W base ok v xs) (ht : e ≠ 59) : some g ≠ v.ownBlock := by
  obtain ⟨A0, c0, hb, hg, hr0⟩ := h
  exact Kd.Q_ne ho hb ht
theorem IsS59.apartS {w0 W : World} {g : Nat} {f0 : List Int} {f1 : Int} {α : Type} {d : Kd α} {e : Nat} {base : Nat} {ok : Nat → Prop} {v : Value} {xs : List α} (h : IsS59 w0 W g f0 f1) (ho : d.S e W base ok v xs) (ht : ∀ q, q ∈ e :: d.E → q ≠ 59) : d.S e W base (fun k => ok k ∧ k ≠ g) v xs := by
  obtain ⟨A0, c0, hb, hg, hr0⟩ := h
  exact Kd.S_types ho hb ht
theorem IsS59.own_neS {w0 W : World} {g : Nat} {f0 : List Int} {f1 : Int} {α : Type} {d : Kd α} {e : Nat} {base : Nat} {ok : Nat → Prop} {v : Value} {xs : List α} (h : IsS59 w0 W g f0 f1) (ho : d.S e W base ok v xs) (ht : e ≠ 59) : some g ≠ v.ownBlock := by
  obtain ⟨A0, c0, hb, hg, hr0⟩ := h
  exact Kd.S_ne ho hb ht
theorem IsS59.lt {w0 W : World} {g : Nat} {f0 : List Int} {f1 : Int} (h : IsS59 w0 W g f0 f1) : g < W.heap.size := by
  obtain ⟨A0, c0, hb, hg, hr0⟩ := h
  exact blk_lt hb
theorem IsS59.ge {w0 W : World} {g : Nat} {f0 : List Int} {f1 : Int} (h : IsS59 w0 W g f0 f1) : w0.heap.size ≤ g := by
  obtain ⟨A0, c0, hb, hg, hr0⟩ := h
  exact hg
theorem IsS59.ne_blk {w0 W : World} {g : Nat} {f0 : List Int} {f1 : Int} {a : Nat} {cs : Array Value} {t : TypeId} {fr : Nat × Nat} (h : IsS59 w0 W g f0 f1) (hb2 : W.heap[a]? = some (.cells cs t fr)) (ht : t ≠ 59) : g ≠ a := by
  obtain ⟨A0, c0, hb, hg, hr0⟩ := h
  rintro rfl
  rw [hb] at hb2
  injection hb2 with hb2
  injection hb2 with _ ht2
  exact ht ht2.symm
theorem IsS59.far {w0 W : World} {g : Nat} {f0 : List Int} {f1 : Int} {p : Addr} (h : IsS59 w0 W g f0 f1) (hne : g ≠ p.block) (u : Value) : IsS59 w0 (W.setCell p u) g f0 f1 := by
  obtain ⟨A0, c0, hb, hg, hr0⟩ := h
  exact ⟨A0, c0, blk_far hb hne u, hg, hr0⟩
theorem cellS59_0 {W : World} {g : Nat} {A0 : Option Addr} {c0 : Nat} {f0 : List Int} {f1 : Int} (h : W.heap[g]? = some (.cells #[.slice A0 f0.length c0, .int .i64 f1] 59 (0, 0))) : W.cell? ⟨g, 0, none⟩ = some (.slice A0 f0.length c0) := (blk_cell h 0).trans rfl
theorem cellS59_1 {W : World} {g : Nat} {A0 : Option Addr} {c0 : Nat} {f0 : List Int} {f1 : Int} (h : W.heap[g]? = some (.cells #[.slice A0 f0.length c0, .int .i64 f1] 59 (0, 0))) : W.cell? ⟨g, 1, none⟩ = some (.int .i64 f1) := (blk_cell h 1).trans rfl
theorem IsS59.set_1 {w0 W : World} {g : Nat} {f0 : List Int} {f1 : Int} (h : IsS59 w0 W g f0 f1) (x : Int) : IsS59 w0 (W.setCell ⟨g, 1, none⟩ (.int .i64 x)) g f0 x := by
  obtain ⟨A0, c0, hb, hg, hr0⟩ := h
  exact ⟨A0, c0, by simpa using blk_set hb 1 (.int .i64 x), hg, hr0⟩
theorem IsS59.new (w0 W : World) (A0 : Option Addr) (c0 : Nat) (f0 : List Int) (f1 : Int) (hB : Below w0.heap.size w0 W) (hr0 : Kd.C (Kd.int .u8) w0 A0 f0.length f0) : IsS59 w0 (W.alloc (.cells #[.slice A0 f0.length c0, .int .i64 f1] 59)) W.heap.size f0 f1 := ⟨A0, c0, by simpa using heap_alloc_new W _, hB.size, hr0⟩

/-! ### spec_l6Open: function 44 -/
def spec_l6Open.f (l0 : List Int) : Option (List Int × Int) := if (l0.length : Int) > 2000 then (if 2000 ≤ (l0.length : Int) then (some (l0.take 2000, 0)) else (none)) else (some (l0, 0))
set_option maxHeartbeats 8000000 in
set_option maxRecDepth 100000 in
theorem spec_l6Open.calls (A0 : Option Addr) (c0 : Nat) (l0 : List Int) (r1 : List Int) (r2 : Int) (w0 w : World) (hB : Below w0.heap.size w0 w) (hr0 : Kd.C (Kd.int .u8) w0 A0 l0.length l0) (hc0 : l0.length ≤ c0) (h : spec_l6Open.f l0 = some (r1, r2)) :
    Calls Try.prog 44 #[.slice A0 l0.length c0] w fun e w' => ∃ g_ : Nat, e = .returned (.pointer (some ⟨g_, 0, none⟩)) ∧ IsS59 w0 w' g_ r1 r2 ∧ Below w0.heap.size w0 w' ∧ Below w.heap.size w w' := by
  have hu59 := Try.underlying59
  have HR0 := Aside0.mk hr0
  have HC0 := Aside0.mk hc0
  clear hr0 hc0
  have HBW := Aside0.mk (Below.refl w.heap.size w)
  have HW0 := Aside0.mk hB.size
  have HB := Aside0.mk hB
  clear hB
  have H : (if (l0.length : Int) > 2000 then (if 2000 ≤ (l0.length : Int) then (some (l0.take 2000, 0)) else (none)) else (some (l0, 0))) = some (r1, r2) := h
  clear h
  by_cases c2 : (l0.length : Int) > 2000
  · rw [if_pos c2] at H
    have c2b0 : decide (2000 < (l0.length : Int)) = true := decide_eq_true c2
    have c2b1 : decide (2000 < l0.length) = true := decide_eq_true (by omega)
    clear c2
    by_cases c3 : 2000 ≤ (l0.length : Int)
    · rw [if_pos c3] at H
      have c3b0 := eq_true c3
      have c3b1 : decide (2000 ≤ (l0.length : Int)) = true := decide_eq_true c3
      clear c3
      simp only [Option.some.injEq, Prod.mk.injEq] at H
      obtain ⟨rfl, rfl⟩ := H
      obtain ⟨i04, hi04, _, hsz4, _⟩ := info_parts info5
      obtain ⟨hcut4, hA4, hC4⟩ := print_take_of (P := Try.prog) (Value.int .u8) 0 27 5 .i64 Try.underlying27 hi04 hsz4 A0 c0 l0 2000 (by omega) (of_decide_eq_true (by first | (with_reducible assumption) | assumption)) HC0.out
      have HR118 := Aside0.mk (Kd.C_of_reads (h1 := fun _ => rfl) (hA4 _ (Kd.reads_of_C HR0.out)))
      have HC118 := Aside0.mk hC4
      clear hA4 hC4 hi04 hsz4
      go_enter Try.func44, Try.ntmps44
      go_wp2_with (first | ((with_reducible refine gate_dst (N := 10) rfl ?_); refine box_event ?hg (N := 10) ?hd (cs := #[.slice A0 (l0.take 2000).length c0, .int .i64 0]) (t := 59) ?hr ?_; (case hd => rfl); (case hg => rfl); (case hr => first | (go_simp; done) | (go_simp; rfl)); intro gb119 hg w5 hbox hb; have n0_ := Aside0.mk (below_step HBW.out hb); have n1_ := Aside0.mk (below_step (by repeat (first | (with_reducible first | exact HB.out | apply below_alloc | apply pw_below_drewN | apply below_drew1) | exact HB.out)) hb); have n2_ := Aside0.mk (hbox); have n3_ := Aside0.mk ((by rw [hg]; exact (below_size (by repeat (first | (with_reducible first | exact HBW.out | apply below_alloc | apply pw_below_drewN | apply below_drew1) | exact HBW.out))) : w.heap.size ≤ gb119)); have n4_ := Aside0.mk ((Nat.le_trans HW0.out (by rw [hg]; exact (below_size (by repeat (first | (with_reducible first | exact HBW.out | apply below_alloc | apply pw_below_drewN | apply below_drew1) | exact HBW.out))) : w.heap.size ≤ gb119) : w0.heap.size ≤ gb119)); clear HBW; clear HB; have HBW := n0_; have HB := n1_; have BK119 := n2_; have GW119 := n3_; have GE119 := n4_; clear n0_ n1_ n2_ n3_ n4_; clear hb hbox hg))
      go_ret
      exact ⟨_, rfl, (show IsS59 w0 _ gb119 (l0.take 2000) 0 from ⟨_, _, by (with_reducible repeat (first | refine blk_drewN ?_ _ | refine blk_drew ?_ | refine blk_alloc ?_ _)); exact BK119.out, GE119.out, HR118.out⟩), by repeat (first | (with_reducible first | exact HB.out | apply below_alloc | apply pw_below_drewN | apply below_drew1 | refine below_set ?_ GE119.out) | exact HB.out), by repeat (first | (with_reducible first | exact HBW.out | apply below_alloc | apply pw_below_drewN | apply below_drew1 | refine below_set ?_ GW119.out) | exact HBW.out)⟩
    · rw [if_neg c3] at H
      exact absurd H (by simp)
  · rw [if_neg c2] at H
    have c2b0 : decide (2000 < (l0.length : Int)) = false := decide_eq_false c2
    have c2b1 : decide (2000 < l0.length) = false := decide_eq_false (by omega)
    clear c2
    simp only [Option.some.injEq, Prod.mk.injEq] at H
    obtain ⟨rfl, rfl⟩ := H
    go_enter Try.func44, Try.ntmps44
    go_wp2_with (first | ((with_reducible refine gate_dst (N := 10) rfl ?_); refine box_event ?hg (N := 10) ?hd (cs := #[.slice A0 l0.length c0, .int .i64 0]) (t := 59) ?hr ?_; (case hd => rfl); (case hg => rfl); (case hr => first | (go_simp; done) | (go_simp; rfl)); intro gb120 hg w6 hbox hb; have n0_ := Aside0.mk (below_step HBW.out hb); have n1_ := Aside0.mk (below_step (by repeat (first | (with_reducible first | exact HB.out | apply below_alloc | apply pw_below_drewN | apply below_drew1) | exact HB.out)) hb); have n2_ := Aside0.mk (hbox); have n3_ := Aside0.mk ((by rw [hg]; exact (below_size (by repeat (first | (with_reducible first | exact HBW.out | apply below_alloc | apply pw_below_drewN | apply below_drew1) | exact HBW.out))) : w.heap.size ≤ gb120)); have n4_ := Aside0.mk ((Nat.le_trans HW0.out (by rw [hg]; exact (below_size (by repeat (first | (with_reducible first | exact HBW.out | apply below_alloc | apply pw_below_drewN | apply below_drew1) | exact HBW.out))) : w.heap.size ≤ gb120) : w0.heap.size ≤ gb120)); clear HBW; clear HB; have HBW := n0_; have HB := n1_; have BK120 := n2_; have GW120 := n3_; have GE120 := n4_; clear n0_ n1_ n2_ n3_ n4_; clear hb hbox hg))
    go_ret
    exact ⟨_, rfl, (show IsS59 w0 _ gb120 l0 0 from ⟨_, _, by (with_reducible repeat (first | refine blk_drewN ?_ _ | refine blk_drew ?_ | refine blk_alloc ?_ _)); exact BK120.out, GE120.out, HR0.out⟩), by repeat (first | (with_reducible first | exact HB.out | apply below_alloc | apply pw_below_drewN | apply below_drew1 | refine below_set ?_ GE120.out) | exact HB.out), by repeat (first | (with_reducible first | exact HBW.out | apply below_alloc | apply pw_below_drewN | apply below_drew1 | refine below_set ?_ GW120.out) | exact HBW.out)⟩

end Go.Proofs.Ytdjenclegglmfaa.PFnHeavyStep
