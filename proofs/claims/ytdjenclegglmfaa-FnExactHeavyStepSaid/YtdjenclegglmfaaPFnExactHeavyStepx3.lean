-- Written by a program of this session over the kit's printer, with contracts proved by hand; Lean checks it.
import Derived.Test.YtdjenclegglmfaaPFnExactHeavyStepx0
import Derived.Test.YtdjenclegglmfaaPFnExactHeavyStepx2
namespace Go.Proofs.Ytdjenclegglmfaa.PFnExactHeavyStep
open Go.RowKit Go.Proofs.YtdjenclegglmfaaW.PrintWords Go.Proofs.YtdjenclegglmfaaW.PrintLast Go.Proofs.YtdjenclegglmfaaW.PrintMore
attribute [local go_sem] max2_int min2_int max_two min_two max_three min_three max_four min_four   -- for this text's walks alone
set_option linter.unusedVariables false
set_option linter.unusedSimpArgs false

/-! ### impl_treeOf: function 52 -/
theorem h_cell {w : World} {b : Nat} {cs : Array Value} {T : TypeId} {fr : Nat × Nat} (hb : w.heap[b]? = some (.cells cs T fr)) (j : Nat) : w.cell? ⟨b, j, none⟩ = cs[j]? := by simp [World.cell?, hb]
theorem h_frozen {w : World} {b : Nat} {cs : Array Value} {T : TypeId} (hb : w.heap[b]? = some (.cells cs T (0, 0))) (j : Nat) : w.frozen? ⟨b, j, none⟩ = false := by simp [World.frozen?, hb]
theorem h_set {w : World} {b i : Nat} {cs : Array Value} {T : TypeId} {fr : Nat × Nat} (hb : w.heap[b]? = some (.cells cs T fr)) (v : Value) : (w.setCell ⟨b, i, none⟩ v).heap[b]? = some (.cells (cs.setIfInBounds i v) T fr) := by
  show (w.heap.modify b _)[b]? = _
  rw [Array.getElem?_modify, if_pos rfl, hb]
  rfl
abbrev Pre := List UInt8
def kid (m c : Pre → Nat) (p : Pre) (b : UInt8) : Option Addr := if 0 < c (p ++ [b]) then some ⟨m (p ++ [b]), 0, none⟩ else none
def live (c : Pre → Nat) (p : Pre) : Prop := p = [] ∨ 0 < c p
def knot (m c : Pre → Nat) (p : Pre) : Obj := .cells #[.int .i64 (c p : Nat), .pointer (kid m c p 97), .pointer (kid m c p 98)] 62 (0, 0)
structure Tree (w : World) (B : Nat) (m c : Pre → Nat) : Prop where
  node : ∀ p, live c p → B ≤ m p ∧ w.heap[m p]? = some (knot m c p)
  inj : ∀ p q, live c p → live c q → m p = m q → p = q
  closed : ∀ q x, 0 < c (q ++ [x]) → live c q
  small : ∀ p, c p ≤ 100
theorem Tree.dead {w : World} {B : Nat} {m c : Pre → Nat} (h : Tree w B m c) {p : Pre} (hp : ¬ live c p) (q : Pre) : ¬ live c (p ++ q) := by
  induction q generalizing p with
  | nil => simpa using hp
  | cons x q ih =>
    have h2 : ¬ live c (p ++ [x]) := by
      rintro (h3 | h3)
      · simp at h3
      · exact hp (h.closed _ _ h3)
    have := ih h2
    simpa using this
theorem lt_heap {w : World} {g : Nat} {o : Obj} (hg : w.heap[g]? = some o) : g < w.heap.size := (Array.getElem?_eq_some_iff.1 hg).1
theorem Tree.below {w w' : World} {B : Nat} {m c : Pre → Nat} (h : Tree w B m c) {N : Nat} (hN : w.heap.size ≤ N) (hb : Below N w w') : Tree w' B m c :=
  ⟨fun p hp => by
    obtain ⟨h1, h2⟩ := h.node p hp
    exact ⟨h1, by rw [hb.block _ (by have := lt_heap h2; omega)]; exact h2⟩, h.inj, h.closed, h.small⟩
theorem Tree.c0 {w : World} {B : Nat} {m c : Pre → Nat} (h : Tree w B m c) {p : Pre} (hp : live c p) : w.cell? ⟨m p, 0, none⟩ = some (.int .i64 (c p : Nat)) := by
  rw [h_cell (h.node p hp).2]; rfl
theorem Tree.c1 {w : World} {B : Nat} {m c : Pre → Nat} (h : Tree w B m c) {p : Pre} (hp : live c p) : w.cell? ⟨m p, 1, none⟩ = some (.pointer (kid m c p 97)) := by
  rw [h_cell (h.node p hp).2]; rfl
theorem Tree.c2 {w : World} {B : Nat} {m c : Pre → Nat} (h : Tree w B m c) {p : Pre} (hp : live c p) : w.cell? ⟨m p, 2, none⟩ = some (.pointer (kid m c p 98)) := by
  rw [h_cell (h.node p hp).2]; rfl
theorem take_snoc {l : List UInt8} {k : Nat} (h : k < l.length) : l.take (k + 1) = l.take k ++ [l.getD k 0] := by
  rw [List.getD_eq_getElem?_getD, List.getElem?_eq_getElem h, Option.getD_some, List.take_append_getElem h]
theorem ab_get {l : List UInt8} (h : l.all ab = true) {k : Nat} (hk : k < l.length) : l.getD k 0 = 97 ∨ l.getD k 0 = 98 := by
  rw [List.getD_eq_getElem?_getD, List.getElem?_eq_getElem hk, Option.getD_some]
  have := List.all_eq_true.1 h _ (List.getElem_mem hk)
  simpa [ab] using this

set_option maxHeartbeats 1000000 in
theorem count_calls (s : ByteArray) (w : World) (hs : s.size ≤ 140737488351232) {B : Nat} {m c : Pre → Nat} (hT : Tree w B m c) (ha : s.data.toList.all ab = true) :
    Calls Try.prog 53 #[.pointer (some ⟨m [], 0, none⟩), .string s] w fun e w' => e = .returned (.int .i64 (c s.data.toList : Nat)) ∧ Below w.heap.size w w' := by
  have hcv := fun W : World => Lib.run_convert_string_bytes (P := Try.prog) W 9 27 5 s Try.underlying9 Try.underlying27 Try.underlying5
  have hb := below_bytes w 5 s
  have hcell := Lib.bytesWorld_cell w 5 s
  have hT1 := hT.below (Nat.le_refl _) hb
  have HT := Go.Lib.hid hT1
  have HC := Go.Lib.hid hcell
  have HA := Go.Lib.hid ha
  clear hcell ha hT hT1
  have hlen : s.data.toList.length = s.size := by simp
  go_enter Try.func53, Try.ntmps53
  go_wp2
  go_loop [10, 0] (fun v10 v0 => ∃ k : Nat, k ≤ s.size ∧ v10 = .int .i64 k ∧ live c (s.data.toList.take k) ∧ v0 = .pointer (some ⟨m (s.data.toList.take k), 0, none⟩)) (fun v10 _ => s.size - (intOf v10).toNat)
  case atStart => exact ⟨0, by omega, rfl, .inl rfl, rfl⟩
  case round =>
    obtain ⟨k, hk, rfl, hl, rfl⟩ := hrel
    by_cases hlt : k < s.size
    · have hc := HC.out k hlt
      have hc1 := HT.out.c1 hl
      have hc2 := HT.out.c2 hl
      have HTK := Go.Lib.hid (take_snoc (l := s.data.toList) (k := k) (by omega))
      have HD := Go.Lib.hid (fun (x : UInt8) (h0 : ¬ 0 < c (s.data.toList.take k ++ [x])) (hx : s.data.toList.getD k 0 = x) => show c s.data.toList = 0 by
        have h1 : ¬ live c (s.data.toList.take (k + 1)) := by
          rintro (h | h)
          · have := congrArg List.length h
            rw [List.length_take, List.length_nil] at this
            omega
          · rw [take_snoc (by omega), hx] at h
            exact h0 h
        have h2 := HT.out.dead h1 (s.data.toList.drop (k + 1))
        rw [List.take_append_drop] at h2
        have : ¬ 0 < c s.data.toList := fun h => h2 (.inr h)
        omega)
      have HV := Go.Lib.hid hl
      rcases ab_get HA.out (k := k) (by omega) with hx | hx
      · rw [hx] at hc HTK
        have HD := Go.Lib.hid (fun h0 => HD.out 97 h0 hx)
        have HX := Go.Lib.hid hx
        clear hx hl
        unfold kid at hc1
        by_cases h1 : 0 < c (s.data.toList.take k ++ [97])
        · rw [if_pos h1] at hc1
          clear hc2
          go_wp2
          go_round
          case rel => exact ⟨k + 1, by omega, by go_num, by rw [HTK.out]; exact .inr h1, by rw [HTK.out]⟩
          case measure => simp [intOf]; omega
        · rw [if_neg h1] at hc1
          clear hc2
          go_wp2
          go_ret
          exact ⟨by rw [HD.out h1]; rfl, hb⟩
      · rw [hx] at hc HTK
        have HD := Go.Lib.hid (fun h0 => HD.out 98 h0 hx)
        have HX := Go.Lib.hid hx
        clear hx hl
        unfold kid at hc2
        by_cases h1 : 0 < c (s.data.toList.take k ++ [98])
        · rw [if_pos h1] at hc2
          clear hc1
          go_wp2
          go_round
          case rel => exact ⟨k + 1, by omega, by go_num, by rw [HTK.out]; exact .inr h1, by rw [HTK.out]⟩
          case measure => simp [intOf]; omega
        · rw [if_neg h1] at hc2
          clear hc1
          go_wp2
          go_ret
          exact ⟨by rw [HD.out h1]; rfl, hb⟩
    · have hk2 : k = s.size := by omega
      subst hk2
      have e : s.data.toList.take s.size = s.data.toList := List.take_of_length_le (by omega)
      rw [e] at hl ⊢
      have hc0 := HT.out.c0 hl
      have HV := Go.Lib.hid hl
      clear hl e
      go_wp2
      go_ret
      exact ⟨rfl, hb⟩
def cnt (l : List ByteArray) (p : Pre) : Nat := l.countP fun s => p.isPrefixOf s.data.toList
def part (c : Pre → Nat) (s : Pre) (k : Nat) (p : Pre) : Nat := c p + if p.length ≤ k ∧ p <+: s then 1 else 0
def bump (c : Pre → Nat) (p q : Pre) : Nat := if q = p then c q + 1 else c q
theorem part_zero (c : Pre → Nat) (s : Pre) : part c s 0 = bump c [] := by
  funext p
  unfold part bump
  by_cases h : p = []
  · subst h; simp
  · rw [if_neg h, if_neg (fun x => h (List.eq_nil_of_length_eq_zero (by omega)))]
    rfl
theorem part_succ (c : Pre → Nat) (s : Pre) (k : Nat) (hk : k < s.length) : part c s (k + 1) = bump (part c s k) (s.take (k + 1)) := by
  funext p
  unfold part bump
  by_cases h : p = s.take (k + 1)
  · subst h
    have h1 : s.take (k + 1) <+: s := List.take_prefix _ _
    have h2 : (s.take (k + 1)).length = k + 1 := by rw [List.length_take]; omega
    dsimp only
    rw [if_pos ⟨by omega, h1⟩, if_pos rfl, if_neg (fun x => by omega)]
  · rw [if_neg h]
    congr 1
    by_cases h1 : p.length ≤ k ∧ p <+: s
    · rw [if_pos h1, if_pos ⟨by omega, h1.2⟩]
    · rw [if_neg h1, if_neg]
      rintro ⟨h2, h3⟩
      apply h1
      refine ⟨?_, h3⟩
      have h4 := List.prefix_iff_eq_take.1 h3
      by_cases h5 : p.length = k + 1
      · rw [h5] at h4; exact absurd h4 h
      · omega
theorem part_all (l : List ByteArray) (s : ByteArray) (k : Nat) (hk : s.data.toList.length ≤ k) : part (cnt l) s.data.toList k = cnt (l ++ [s]) := by
  funext p
  unfold part cnt
  rw [List.countP_append]
  congr 1
  simp only [List.countP_cons, List.countP_nil, List.isPrefixOf_iff_prefix]
  by_cases h : p <+: s.data.toList
  · have := h.length_le
    rw [if_pos ⟨by omega, h⟩, if_pos h]
  · rw [if_neg (fun x => h x.2), if_neg h]
theorem live_bump {c : Pre → Nat} {p q : Pre} : live (bump c p) q ↔ live c q ∨ q = p := by
  unfold live bump
  by_cases h : q = p
  · subst h; simp
  · rw [if_neg h]; simp [h]
theorem kid_bump {m c : Pre → Nat} {p : Pre} (hp : live c p) (q : Pre) (b : UInt8) : kid m (bump c p) q b = kid m c q b := by
  unfold kid bump
  by_cases h : q ++ [b] = p
  · have h2 : 0 < c (q ++ [b]) := by
      rw [h]
      rcases hp with hp | hp
      · rw [hp] at h; simp at h
      · exact hp
    rw [if_pos h, if_pos (by omega), if_pos h2]
  · rw [if_neg h]
theorem Tree.up {w : World} {B : Nat} {m c : Pre → Nat} (h : Tree w B m c) {p : Pre} (hp : live c p) (hc : c p < 100) : Tree (w.setCell ⟨m p, 0, none⟩ (.int .i64 ((c p : Nat) + 1))) B m (bump c p) := by
  have hl : ∀ q, live (bump c p) q → live c q := fun q hq => by
    rcases live_bump.1 hq with h1 | rfl
    · exact h1
    · exact hp
  refine ⟨fun q hq => ?_, fun q r hq hr => h.inj q r (hl q hq) (hl r hr), fun q x hq => ?_, fun q => ?_⟩
  · obtain ⟨h1, h2⟩ := h.node q (hl q hq)
    refine ⟨h1, ?_⟩
    by_cases e : q = p
    · subst e
      rw [h_set h2 _]
      unfold knot
      rw [kid_bump hp, kid_bump hp]
      simp [bump]
    · rw [Below.heap_setCell _ _ _ _ (fun e2 => e (h.inj q p (hl q hq) hp e2)), h2]
      unfold knot
      rw [kid_bump hp, kid_bump hp]
      simp [bump, e]
  · have : live c (q ++ [x]) := hl _ (.inr hq)
    refine live_bump.2 (.inl ?_)
    rcases this with h1 | h1
    · simp at h1
    · exact h.closed q x h1
  · unfold bump
    split
    · rename_i e; subst e; omega
    · exact h.small q

def setm (m : Pre → Nat) (P : Pre) (n : Nat) (q : Pre) : Nat := if q = P then n else m q
theorem kid_grow (m c : Pre → Nat) (P : Pre) (n : Nat) (q : Pre) (y : UInt8) : kid (setm m P n) (bump c P) q y = if q ++ [y] = P then some ⟨n, 0, none⟩ else kid m c q y := by
  unfold kid setm bump
  by_cases h : q ++ [y] = P
  · rw [if_pos h, if_pos (by omega), if_pos h, if_pos h]
  · rw [if_neg h, if_neg h, if_neg h]
theorem heap_sa {w : World} {a : Addr} {v : Value} {o : Obj} {b : Nat} (h : b ≠ a.block) (hb : b < w.heap.size) : ((w.setCell a v).alloc o).heap[b]? = w.heap[b]? := by
  rw [Below.heap_alloc _ _ _ (by simpa [World.setCell] using hb), Below.heap_setCell _ _ _ _ h]
theorem heap_new {w : World} {o : Obj} {n : Nat} (h : n = w.heap.size) : (w.alloc o).heap[n]? = some o := by
  subst h
  show (w.heap.push o)[w.heap.size]? = _
  rw [Array.getElem?_push, if_pos rfl]
theorem cell_of_same {w w' : World} {a : Addr} (h : w'.heap[a.block]? = w.heap[a.block]?) : w'.cell? a = w.cell? a := by
  unfold World.cell?; rw [h]
theorem Tree.grow {w : World} {B : Nat} {m c : Pre → Nat} (h : Tree w B m c) {p : Pre} (hp : live c p) (x : UInt8) (i : Nat) (hx : (x = 97 ∧ i = 1) ∨ (x = 98 ∧ i = 2)) (h0 : ¬ 0 < c (p ++ [x])) (hB : B ≤ w.heap.size) :
    Tree ((w.setCell ⟨m p, i, none⟩ (.pointer (some ⟨w.heap.size, 0, none⟩))).alloc (.cells #[.int .i64 1, .pointer none, .pointer none] 62)) B (setm m (p ++ [x]) w.heap.size) (bump c (p ++ [x])) := by
  have hne : ∀ q, live c q → q ≠ p ++ [x] := fun q hq e => by
    subst e
    rcases hq with hq | hq
    · simp at hq
    · exact h0 hq
  have hlt : ∀ q, live c q → m q < w.heap.size := fun q hq => lt_heap (h.node q hq).2
  have hdead : ¬ live c (p ++ [x]) := fun hq => hne _ hq rfl
  have hsz : (w.setCell ⟨m p, i, none⟩ (.pointer (some ⟨w.heap.size, 0, none⟩))).heap.size = w.heap.size := by simp [World.setCell]
  refine ⟨fun q hq => ?_, fun q r hq hr e => ?_, fun q y hq => ?_, fun q => ?_⟩
  · by_cases e : q = p ++ [x]
    · subst e
      refine ⟨by rw [setm, if_pos rfl]; exact hB, ?_⟩
      rw [setm, if_pos rfl]
      have h1 : ∀ y, kid (setm m (p ++ [x]) w.heap.size) (bump c (p ++ [x])) (p ++ [x]) y = none := fun y => by
        rw [kid_grow, if_neg (by intro e; have := congrArg List.length e; simp at this), kid, if_neg]
        intro h2
        exact hdead (h.closed _ _ h2)
      have h2 : bump c (p ++ [x]) (p ++ [x]) = 1 := by rw [bump, if_pos rfl]; omega
      rw [heap_new hsz.symm]
      unfold knot
      rw [h1, h1, h2]
      rfl
    · have hq : live c q := by
        rcases live_bump.1 hq with h1 | h1
        · exact h1
        · exact absurd h1 e
      obtain ⟨h1, h2⟩ := h.node q hq
      have hm : setm m (p ++ [x]) w.heap.size q = m q := by rw [setm, if_neg e]
      have hcq : bump c (p ++ [x]) q = c q := by rw [bump, if_neg e]
      rw [hm]
      refine ⟨h1, ?_⟩
      by_cases e2 : q = p
      · subst e2
        rw [Below.heap_alloc _ _ _ (by rw [hsz]; exact hlt _ hp), h_set h2 _]
        unfold knot
        rw [kid_grow, kid_grow, hcq]
        rcases hx with ⟨rfl, rfl⟩ | ⟨rfl, rfl⟩
        · rw [if_pos rfl, if_neg (by simp)]; rfl
        · rw [if_pos rfl, if_neg (by simp)]; rfl
      · rw [heap_sa (fun e3 => e2 (h.inj q p hq hp e3)) (hlt q hq), h2]
        unfold knot
        have n1 : ∀ y, q ++ [y] ≠ p ++ [x] := fun y e => e2 (by
          have := congrArg List.dropLast e
          simpa using this)
        rw [kid_grow, kid_grow, if_neg (n1 _), if_neg (n1 _), hcq]
  · have cq : q = p ++ [x] ∨ live c q := by
      rcases live_bump.1 hq with h1 | h1
      · exact .inr h1
      · exact .inl h1
    have cr : r = p ++ [x] ∨ live c r := by
      rcases live_bump.1 hr with h1 | h1
      · exact .inr h1
      · exact .inl h1
    unfold setm at e
    rcases cq with rfl | cq
    · rcases cr with rfl | cr
      · rfl
      · rw [if_pos rfl, if_neg (hne r cr)] at e
        have := hlt r cr
        omega
    · rcases cr with rfl | cr
      · rw [if_pos rfl, if_neg (hne q cq)] at e
        have := hlt q cq
        omega
      · rw [if_neg (hne q cq), if_neg (hne r cr)] at e
        exact h.inj q r cq cr e
  · by_cases e : q ++ [y] = p ++ [x]
    · have := congrArg List.dropLast e
      have : q = p := by simpa using this
      subst this
      exact live_bump.2 (.inl hp)
    · rw [bump, if_neg e] at hq
      exact live_bump.2 (.inl (h.closed q y hq))
  · unfold bump
    split
    · rename_i e; subst e; omega
    · exact h.small q
theorem Tree.start (w : World) : Tree (w.alloc (.cells #[.int .i64 0, .pointer none, .pointer none] 62)) w.heap.size (fun _ => w.heap.size) (cnt []) := by
  have hl : ∀ p, live (cnt []) p → p = [] := fun p hp => by
    rcases hp with h | h
    · exact h
    · simp [cnt] at h
  refine ⟨fun p hp => ?_, fun p q hp hq _ => by rw [hl p hp, hl q hq], fun q x h => by simp [cnt] at h, fun p => by simp [cnt]⟩
  refine ⟨Nat.le_refl _, ?_⟩
  show (w.heap.push _)[w.heap.size]? = _
  rw [Array.getElem?_push, if_pos rfl]
  simp [knot, kid, cnt]
set_option maxHeartbeats 2000000 in
theorem treeOf_calls (A : Option Addr) (cc : Nat) (l : List ByteArray) (w : World) (hr : Kd.C Kd.string w A l.length l) (h12 : l.length ≤ 12) (hs : ∀ s ∈ l, s.size ≤ 140737488351232 ∧ s.data.toList.all ab = true) :
    Calls Try.prog 52 #[.slice A l.length cc] w fun e w' => ∃ m, e = .returned (.pointer (some ⟨m [], 0, none⟩)) ∧ Tree w' w.heap.size m (cnt l) ∧ Below w.heap.size w w' := by
  have HR := Go.Lib.hid hr
  have HS := Go.Lib.hid hs
  clear hr hs
  go_enter Try.func52, Try.ntmps52
  go_wp2
  go_loopw [14] (fun v14 W => ∃ (k : Nat) (m : Pre → Nat), k ≤ l.length ∧ v14 = .int .i64 k ∧ Tree W w.heap.size m (cnt (l.take k)) ∧ m [] = w.heap.size ∧ Below w.heap.size w W) (fun v14 _ => l.length - (intOf v14).toNat)
  case atStart => exact ⟨0, fun _ => w.heap.size, by omega, rfl, Tree.start w, rfl, (Below.refl _ w).alloc (Nat.le_refl _) _⟩
  case round =>
    obtain ⟨k, m, hk, rfl, hT, hm0, hb⟩ := hrel
    by_cases hlt : k < l.length
    · obtain ⟨ad, hA, hc⟩ := C_get (Kd.C_below HR.out hb) hlt
      subst hA
      have hss := HS.out (l.getD k ByteArray.empty) (by rw [List.getD_eq_getElem?_getD, List.getElem?_eq_getElem hlt, Option.getD_some]; exact List.getElem_mem hlt)
      have HTK := Go.Lib.hid (show l.take (k + 1) = l.take k ++ [l.getD k ByteArray.empty] by rw [List.getD_eq_getElem?_getD, List.getElem?_eq_getElem hlt, Option.getD_some, List.take_append_getElem hlt])
      generalize l.getD k ByteArray.empty = s at *
      have hcount : cnt (l.take k) [] ≤ 12 := Nat.le_trans (List.countP_le_length) (by rw [List.length_take]; omega)
      have hc0 := hT.c0 (.inl rfl)
      have hf0 := h_frozen (hT.node [] (.inl rfl)).2 0
      rw [hm0] at hc0 hf0
      have HT := Go.Lib.hid hT
      have hcv := fun W : World => Lib.run_convert_string_bytes (P := Try.prog) W 9 27 5 s Try.underlying9 Try.underlying27 Try.underlying5
      clear hT
      go_wp2
      have hT1 := HT.out.up (p := []) (.inl rfl) (by omega)
      rw [hm0, ← part_zero (cnt (l.take k)) s.data.toList] at hT1
      have hmb : ∀ p, live (part (cnt (l.take k)) s.data.toList 0) p → m p ≠ wr.heap.size := fun p hp => by
        rw [part_zero] at hp
        have hp : live (cnt (l.take k)) p := by
          rcases live_bump.1 hp with h | h
          · exact h
          · exact .inl h
        have := lt_heap (HT.out.node p hp).2
        omega
      generalize hW : (wr.setCell { block := w.heap.size, off := 0 } (Value.int IntKind.i64 (↑(cnt (List.take k l) []) + 1))) = W1 at *
      have hsz : W1.heap.size = wr.heap.size := by rw [← hW]; simp [World.setCell]
      have hb1 : Below w.heap.size w W1 := by rw [← hW]; exact hb.setCell (Nat.le_refl _) _
      clear hW hc0 hf0 hcv hc
      rw [← hsz] at hmb ⊢
      have hTb := hT1.below (Nat.le_refl _) (below_bytes W1 5 s)
      have hb2 := hb1.trans ((below_bytes W1 5 s).mono hb1.size)
      have hbc := Lib.bytesWorld_cell W1 5 s
      have hbz := Lib.bytesWorld_size W1 5 s
      have hlen : s.data.toList.length = s.size := by simp
      generalize Lib.bytesWorld W1 5 s = W2 at *
      generalize W1.heap.size = nb at *
      clear hb hb1 hT1 hsz
      have hs3 := hss.2
      have HA := Go.Lib.hid hss.2
      have hss := hss.1
      have hcount2 : ∀ p, cnt (l.take k) p ≤ 12 := fun p => Nat.le_trans (List.countP_le_length) (by rw [List.length_take]; omega)
      have HCO := Go.Lib.hid hcount2
      have HX := Go.Lib.hid (show ∃ c, c = cnt (l.take k) from ⟨_, rfl⟩)
      clear hcount2 hs3
      go_loopw [29, 6] (fun v29 v6 W => ∃ (j : Nat) (m : Pre → Nat), j ≤ s.size ∧ v29 = .int .i64 j ∧ Tree W w.heap.size m (part (cnt (l.take k)) s.data.toList j) ∧ v6 = .pointer (some ⟨m (s.data.toList.take j), 0, none⟩) ∧ live (part (cnt (l.take k)) s.data.toList j) (s.data.toList.take j) ∧ m [] = w.heap.size ∧ Below w.heap.size w W ∧ (∀ i, i < s.size → W.cell? ⟨nb, i, none⟩ = some (.int .u8 (s.data.toList.getD i 0).toNat)) ∧ nb < W.heap.size ∧ ∀ p, live (part (cnt (l.take k)) s.data.toList j) p → m p ≠ nb) (fun v29 _ _ => s.size - (intOf v29).toNat)
      case atStart => exact ⟨0, m, by omega, rfl, hTb, by rw [List.take_zero, hm0], .inl rfl, hm0, hb2, hbc, by omega, hmb⟩
      case round =>
        clear hTb hmb hm0 hb2 hbc hbz HT m hcount
        obtain ⟨j, m, hj, rfl, hT, rfl, hl, hm0, hb, hbc, hbz, hmb⟩ := hrel
        have HM := Go.Lib.hid hmb
        have HBC := Go.Lib.hid hbc
        clear hmb hbc
        by_cases hjt : j < s.size
        · have hc := HBC.out j hjt
          have hc1 := hT.c1 hl
          have hc2 := hT.c2 hl
          have hTK := take_snoc (l := s.data.toList) (k := j) (by omega)
          have hPS := part_succ (cnt (l.take k)) s.data.toList j (by omega)
          have hf := h_frozen (hT.node _ hl).2
          have hlt := lt_heap (hT.node _ hl).2
          have hle := (hT.node _ hl).1
          have hne := HM.out _ hl
          have HL := Go.Lib.hid hl
          have hfresh : ∀ p, live (part (cnt (l.take k)) s.data.toList j) p → m p ≠ wr.heap.size := fun p hp => by
            have := lt_heap (hT.node p hp).2
            omega
          have HF := Go.Lib.hid hfresh
          have HTT := Go.Lib.hid hT
          have HSM := Go.Lib.hid (fun q => show part (cnt (l.take k)) s.data.toList j q ≤ 13 by unfold part; have := HCO.out q; split <;> omega)
          clear hfresh hT
          rcases ab_get HA.out (k := j) (by omega) with hx | hx
          · have hx : s.data.toList.getD j 0 = 97 := hx
            rw [hx] at hc hTK
            rw [hTK] at hPS
            have HTK := Go.Lib.hid hTK
            have HPS := Go.Lib.hid hPS
            clear hx hl hTK hPS
            unfold kid at hc1
            by_cases h1 : 0 < part (cnt (l.take k)) s.data.toList j (s.data.toList.take j ++ [97])
            · rw [if_pos h1] at hc1
              have h2 := HTT.out.c0 (.inr h1)
              have hf2 := h_frozen (HTT.out.node _ (.inr h1)).2 0
              have hsm := HSM.out (s.data.toList.take j ++ [97])
              have hle2 := (HTT.out.node _ (.inr h1)).1
              have hne2 := HM.out _ (.inr h1)
              have H1 := Go.Lib.hid h1
              clear hc2 h1
              go_wp2
              go_roundw
              case rel =>
                refine ⟨j + 1, m, by omega, by go_num, ?_, by rw [HTK.out], ?_, hm0, hb.setCell hle2 _, fun i hi => ?_, by simpa [World.setCell] using hbz, fun q hq => ?_⟩
                · rw [HPS.out]
                  exact HTT.out.up (.inr H1.out) (by omega)
                · rw [HPS.out, HTK.out]
                  exact live_bump.2 (.inr rfl)
                · rw [cell_of_same (Below.heap_setCell _ _ _ _ (fun e => hne2 e.symm))]
                  exact HBC.out i hi
                · rw [HPS.out] at hq
                  rcases live_bump.1 hq with h1 | h1
                  · exact HM.out q h1
                  · rw [h1]; exact hne2
              case measure => simp [intOf]; omega
            · rw [if_neg h1] at hc1
              have H1 := Go.Lib.hid h1
              clear hc2 h1
              go_wp2
              go_roundw
              case rel =>
                refine ⟨j + 1, setm m (s.data.toList.take j ++ [97]) wr.heap.size, by omega, by go_num, ?_, by rw [HTK.out, setm, if_pos rfl], ?_, by rw [setm, if_neg (by simp)]; exact hm0, (hb.setCell hle _).alloc (by simpa [World.setCell] using hb.size) _, fun i hi => ?_, by simp [World.setCell]; omega, fun q hq => ?_⟩
                · rw [HPS.out]
                  exact HTT.out.grow HL.out 97 1 (by decide) H1.out hb.size
                · rw [HPS.out, HTK.out]
                  exact live_bump.2 (.inr rfl)
                · rw [cell_of_same (heap_sa (fun e => hne e.symm) hbz)]
                  exact HBC.out i hi
                · rw [HPS.out] at hq
                  unfold setm
                  split
                  · omega
                  · rcases live_bump.1 hq with h1 | h1
                    · exact HM.out q h1
                    · contradiction
              case measure => simp [intOf]; omega
          · have hx : s.data.toList.getD j 0 = 98 := hx
            rw [hx] at hc hTK
            rw [hTK] at hPS
            have HTK := Go.Lib.hid hTK
            have HPS := Go.Lib.hid hPS
            clear hx hl hTK hPS
            unfold kid at hc2
            by_cases h1 : 0 < part (cnt (l.take k)) s.data.toList j (s.data.toList.take j ++ [98])
            · rw [if_pos h1] at hc2
              have h2 := HTT.out.c0 (.inr h1)
              have hf2 := h_frozen (HTT.out.node _ (.inr h1)).2 0
              have hsm := HSM.out (s.data.toList.take j ++ [98])
              have hle2 := (HTT.out.node _ (.inr h1)).1
              have hne2 := HM.out _ (.inr h1)
              have H1 := Go.Lib.hid h1
              clear hc1 h1
              go_wp2
              go_roundw
              case rel =>
                refine ⟨j + 1, m, by omega, by go_num, ?_, by rw [HTK.out], ?_, hm0, hb.setCell hle2 _, fun i hi => ?_, by simpa [World.setCell] using hbz, fun q hq => ?_⟩
                · rw [HPS.out]
                  exact HTT.out.up (.inr H1.out) (by omega)
                · rw [HPS.out, HTK.out]
                  exact live_bump.2 (.inr rfl)
                · rw [cell_of_same (Below.heap_setCell _ _ _ _ (fun e => hne2 e.symm))]
                  exact HBC.out i hi
                · rw [HPS.out] at hq
                  rcases live_bump.1 hq with h1 | h1
                  · exact HM.out q h1
                  · rw [h1]; exact hne2
              case measure => simp [intOf]; omega
            · rw [if_neg h1] at hc2
              have H1 := Go.Lib.hid h1
              clear hc1 h1
              go_wp2
              go_roundw
              case rel =>
                refine ⟨j + 1, setm m (s.data.toList.take j ++ [98]) wr.heap.size, by omega, by go_num, ?_, by rw [HTK.out, setm, if_pos rfl], ?_, by rw [setm, if_neg (by simp)]; exact hm0, (hb.setCell hle _).alloc (by simpa [World.setCell] using hb.size) _, fun i hi => ?_, by simp [World.setCell]; omega, fun q hq => ?_⟩
                · rw [HPS.out]
                  exact HTT.out.grow HL.out 98 2 (by decide) H1.out hb.size
                · rw [HPS.out, HTK.out]
                  exact live_bump.2 (.inr rfl)
                · rw [cell_of_same (heap_sa (fun e => hne e.symm) hbz)]
                  exact HBC.out i hi
                · rw [HPS.out] at hq
                  unfold setm
                  split
                  · omega
                  · rcases live_bump.1 hq with h1 | h1
                    · exact HM.out q h1
                    · contradiction
              case measure => simp [intOf]; omega
        · have hj2 : j = s.size := by omega
          subst hj2
          have hPA := part_all (l.take k) s s.size (by omega)
          have HPA := Go.Lib.hid hPA
          have HT := Go.Lib.hid hT
          clear hPA hT hl
          go_wp2
          go_roundw
          case rel => exact ⟨k + 1, m, by omega, by go_num, by rw [HTK.out, ← HPA.out]; exact HT.out, hm0, hb⟩
          case measure => simp [intOf]; omega
    · have hk2 : k = l.length := by omega
      subst hk2
      rw [List.take_of_length_le (by omega)] at hT
      have HT := Go.Lib.hid hT
      clear hT
      go_wp2
      go_ret
      exact ⟨m, by rw [hm0]; rfl, HT.out, hb⟩
theorem words_of {l : List ByteArray} (h : impl_WordsOk.f l = some true) : l.length ≤ 12 ∧ ∀ s ∈ l, s.size ≤ 140737488351232 ∧ s.data.toList.all ab = true := by
  unfold impl_WordsOk.f at h
  split at h
  · rename_i h12
    unfold impl_WordsOk_1.f at h
    split at h
    · rename_i hs
      have h := Option.some.inj h
      have h : l.any badW = false := by simpa using h
      refine ⟨by omega, fun s hm => ⟨hs s hm, ?_⟩⟩
      have h2 := List.any_eq_false.1 h s hm
      simp only [badW, pfx, Bool.or_eq_true, Bool.not_eq_true', not_or, Bool.not_eq_true, Bool.not_eq_false] at h2
      have h3 := h2.2
      simp at h3
      simpa using h3.1
    · cases h
  · cases h

/-! ### impl_branch_count: function 53 -/
-- count_calls stands with treeOf.

/-! ### impl_HeavyStep: function 34 -/
-- The numbers of functions and types are those of the seat of the heavy group.
theorem few_calls (s : ByteArray) (w : World) (hs : s.size ≤ 140737488351232) {B : Nat} {m c : Pre → Nat} (hT : Tree w B m c) (ha : s.data.toList.all ab = true) (bt bn : Nat) (need : Int)
    (h1 : w.heap[bt]? = some (.cells #[.pointer (some ⟨m [], 0, none⟩)] 53 (0, 0))) (h2 : w.heap[bn]? = some (.cells #[.int .i64 need] 3 (0, 0))) :
    Calls Try.prog 56 #[.string s, .pointer (some ⟨bt, 0, none⟩), .pointer (some ⟨bn, 0, none⟩)] w fun e w' => e = .returned (.bool (decide ((c s.data.toList : Int) < need))) ∧ Below w.heap.size w w' := by
  have hc1 : w.cell? ⟨bt, 0, none⟩ = some (.pointer (some ⟨m [], 0, none⟩)) := h_cell h1 0
  have hlt := lt_heap h2
  have hcount := fun W => count_calls s W hs (B := B) (m := m) (c := c)
  have HCO := Go.Lib.hid hcount
  have HT := Go.Lib.hid hT
  have HA := Go.Lib.hid ha
  have H2 := Go.Lib.hid h2
  clear hcount hT ha h1 h2
  have hc2 : w.cell? ⟨bn, 0, none⟩ = some (.int .i64 need) := h_cell H2.out 0
  go_enter Try.func56, Try.ntmps56
  go_wp2
  go_region_with (go_at_call 53; refine (HCO.out _ (HT.out.below (Nat.le_refl _) (by repeat (first | exact Below.refl _ _ | apply pw_below_drewN | apply below_drew1))) HA.out).mono ?_; rintro e w' ⟨rfl, hb⟩; have hc3 : w'.cell? ⟨bn, 0, none⟩ = some (.int .i64 need) := h_cell ((hb.block _ hlt).trans H2.out) 0; have hbw := (show Below w.heap.size w w' from Below.trans (by repeat (first | exact Below.refl _ _ | apply pw_below_drewN | apply below_drew1)) hb))
  all_goals (go_wp2; go_ret; exact ⟨rfl, hbw⟩)
theorem take_s (l : List ByteArray) {k : Nat} (h : k < l.length) : l.take (k + 1) = l.take k ++ [l.getD k ByteArray.empty] := by
  rw [List.getD_eq_getElem?_getD, List.getElem?_eq_getElem h, Option.getD_some, List.take_append_getElem h]
theorem mem_s (l : List ByteArray) {k : Nat} (h : k < l.length) : l.getD k ByteArray.empty ∈ l := by
  rw [List.getD_eq_getElem?_getD, List.getElem?_eq_getElem h, Option.getD_some]
  exact List.getElem_mem h
theorem cur_s {cur : Array Value} {l : List ByteArray} (hc : cur.toList.take l.length = l.map .string) {k : Nat} (h : k < l.length) : cur[k]? = some (.string (l.getD k ByteArray.empty)) := by
  have h2 := congrArg (fun x => x[k]?) hc
  simp only [List.getElem?_take, List.getElem?_map] at h2
  rw [if_pos h] at h2
  rw [← Array.getElem?_toList, h2, List.getD_eq_getElem?_getD, List.getElem?_eq_getElem h]
  rfl
def firstBad (del : ByteArray → Bool) (l : List ByteArray) : Int := if l.any del = true then ((l.takeWhile fun s => !del s).length : Nat) else -1
theorem firstBad_at {del : ByteArray → Bool} {l : List ByteArray} {k : Nat} (hk : k < l.length) (h1 : (l.take k).any del = false) (h2 : del (l.getD k ByteArray.empty) = true) : firstBad del l = (k : Nat) := by
  unfold firstBad
  rw [if_pos (List.any_eq_true.2 ⟨_, mem_s l hk, h2⟩)]
  congr 1
  induction l generalizing k with
  | nil => simp at hk
  | cons x xs ih =>
    cases k with
    | zero => simp at h2; simp [h2]
    | succ k =>
      simp at h1
      have hx : del x = false := by simpa using h1.1
      rw [List.takeWhile_cons, hx]
      simp only [Bool.not_false, if_true, List.length_cons]
      congr 1
      exact ih (by simpa using hk) (by simpa using h1.2) (by simpa using h2)
set_option maxHeartbeats 1000000 in
theorem idx_calls (pt pn : Value) (g cap : Nat) (l : List ByteArray) (cur : Array Value) (w : World) (hh : w.heap[g]? = some (.cells cur 9 (0, 0))) (hcur : cur.toList.take l.length = l.map .string) (hl : l.length ≤ 100) (del : ByteArray → Bool)
    (hd : ∀ W s, s ∈ l → Below g w W → Calls Try.prog 56 #[.string s, pt, pn] W fun e w' => e = .returned (.bool (del s)) ∧ Below W.heap.size W w') :
    Calls Try.prog 57 #[.slice (some ⟨g, 0, none⟩) l.length cap, .func (.func 56) #[] #[pt, pn]] w fun e w' => e = .returned (.int .i64 (firstBad del l)) ∧ Below w.heap.size w w' := by
  have hlt := lt_heap hh
  have HH := Go.Lib.hid hh
  have HC := Go.Lib.hid hcur
  have HD := Go.Lib.hid hd
  clear hh hcur hd
  go_enter Try.func57, Try.ntmps57
  go_wp2
  go_loopw [8] (fun v8 W => ∃ k : Nat, k ≤ l.length ∧ v8 = .int .i64 k ∧ (l.take k).any del = false ∧ Below w.heap.size w W) (fun v8 _ => l.length - (intOf v8).toNat)
  case atStart => exact ⟨0, by omega, rfl, by simp, Below.refl _ _⟩
  case round =>
    obtain ⟨k, hk, rfl, hall, hb⟩ := hrel
    have HA := Go.Lib.hid hall
    clear hall
    by_cases hkt : k < l.length
    · have hc : wr.cell? ⟨g, k, none⟩ = some (.string (l.getD k ByteArray.empty)) := by
        rw [h_cell ((hb.block g hlt).trans HH.out) k]
        exact cur_s HC.out hkt
      have HT := Go.Lib.hid (take_s l hkt)
      have HF := Go.Lib.hid (firstBad_at (del := del) hkt HA.out)
      have hcall := fun W hW => HD.out W _ (mem_s l hkt) hW
      generalize l.getD k ByteArray.empty = s at *
      cases hp : del s
      · rw [hp] at hcall
        have HP := Go.Lib.hid hp
        have HCA := Go.Lib.hid hcall
        clear hp hcall
        go_wp2_with (go_at_call 56; refine (HCA.out _ (hb.mono (by omega))).mono ?_; rintro e w' ⟨rfl, hb2⟩)
        go_roundw
        case rel => exact ⟨k + 1, by omega, by go_num, by rw [HT.out, List.any_append, HA.out]; simp [HP.out], hb.trans (hb2.mono hb.size)⟩
        case measure => simp [intOf]; omega
      · rw [hp] at hcall
        have HX := Go.Lib.hid (HF.out hp)
        have HCA := Go.Lib.hid hcall
        clear hp hcall
        go_wp2_with (go_at_call 56; refine (HCA.out _ (hb.mono (by omega))).mono ?_; rintro e w' ⟨rfl, hb2⟩)
        go_ret
        exact ⟨by rw [HX.out]; rfl, hb.trans (hb2.mono hb.size)⟩
    · have hk2 : k = l.length := by omega
      subst hk2
      have hx : firstBad del l = -1 := by
        have := HA.out
        rw [List.take_of_length_le (by omega)] at this
        unfold firstBad
        rw [this]
        rfl
      have HX := Go.Lib.hid hx
      clear hx
      go_wp2
      go_ret
      exact ⟨by rw [HX.out]; rfl, hb⟩
theorem filter_take (del : ByteArray → Bool) (l : List ByteArray) {k : Nat} (h : k < l.length) : (l.take (k + 1)).filter (fun s => !del s) = (l.take k).filter (fun s => !del s) ++ (if del (l.getD k ByteArray.empty) = true then [] else [l.getD k ByteArray.empty]) := by
  rw [take_s l h, List.filter_append]
  congr 1
  generalize l.getD k ByteArray.empty = s
  cases hd : del s <;> simp [hd]
theorem firstBad_split {del : ByteArray → Bool} {l : List ByteArray} (h : l.any del = true) : ∃ k : Nat, k < l.length ∧ firstBad del l = (k : Nat) ∧ (l.take (k + 1)).filter (fun s => !del s) = l.take k := by
  obtain ⟨x, hx, hdx⟩ := List.any_eq_true.1 h
  unfold firstBad
  rw [if_pos h]
  refine ⟨_, ?_, rfl, ?_⟩
  · clear hdx hx
    induction l with
    | nil => simp at h
    | cons a xs ih =>
      rw [List.takeWhile_cons]
      cases hd : del a
      · simp [hd] at h
        simp
        exact ih (by simpa using h)
      · simp
  · clear hdx hx
    induction l with
    | nil => simp at h
    | cons a xs ih =>
      rw [List.takeWhile_cons]
      cases hd : del a
      · simp [hd] at h
        have := ih (by simpa using h)
        simp [hd]
        simpa using this
      · simp [hd]
theorem List.take_set_succ_ {α : Type} {l : List α} {i : Nat} {x : α} (h : i < l.length) : (l.set i x).take (i + 1) = l.take i ++ [x] := by
  rw [List.take_succ_eq_append_getElem (by simpa using h)]
  simp [List.take_set_of_le]
set_option maxHeartbeats 2000000 in
theorem del_calls (pt pn : Value) (g cap : Nat) (l : List ByteArray) (cur : Array Value) (w : World) (hh : w.heap[g]? = some (.cells cur 9 (0, 0))) (hcur : cur.toList.take l.length = l.map .string) (hl : l.length ≤ 100) (hcap : l.length ≤ cap) (hsz : cur.size = cap) (del : ByteArray → Bool)
    (hd : ∀ W s, s ∈ l → Below g w W → Calls Try.prog 56 #[.string s, pt, pn] W fun e w' => e = .returned (.bool (del s)) ∧ Below W.heap.size W w') :
    Calls Try.prog 55 #[.slice (some ⟨g, 0, none⟩) l.length cap, .func (.func 56) #[] #[pt, pn]] w fun e w' => ∃ cur' : Array Value, e = .returned (.slice (some ⟨g, 0, none⟩) (l.filter fun s => !del s).length cap) ∧ w'.heap[g]? = some (.cells cur' 9 (0, 0)) ∧ cur'.size = cap ∧ cur'.toList.take (l.filter fun s => !del s).length = (l.filter fun s => !del s).map .string ∧ Below g w w' := by
  have hlt := lt_heap hh
  have hidx := fun W (hW : Below w.heap.size w W) => idx_calls pt pn g cap l cur W ((hW.block g hlt).trans hh) hcur hl del (fun W2 s hs hb => hd W2 s hs ((hW.mono (by omega)).trans hb))
  have HI := Go.Lib.hid hidx
  have HH := Go.Lib.hid hh
  have HC := Go.Lib.hid hcur
  have HD := Go.Lib.hid hd
  clear hh hcur hd hidx
  cases hany : l.any del
  · have hf : firstBad del l = -1 := by unfold firstBad; rw [hany]; rfl
    have hfl : (l.filter fun s => !del s) = l := by
      rw [List.filter_eq_self]
      intro s hs
      have := List.any_eq_false.1 hany s hs
      simpa using this
    rw [hfl]
    rw [hf] at HI
    clear hany hf hfl
    go_enter Try.func55, Try.ntmps55
    go_wp2_with (go_at_call 57; refine (HI.out _ (Below.refl _ _)).mono ?_; rintro e w' ⟨rfl, hb⟩)
    go_ret
    exact ⟨cur, rfl, (hb.block g hlt).trans HH.out, hsz, HC.out, hb.mono (by omega)⟩
  · obtain ⟨i0, hi0, hf, hfi⟩ := firstBad_split hany
    rw [hf] at HI
    have HFI := Go.Lib.hid hfi
    have hne : (((i0 : Nat) : Int) == -1) = false := by simp
    clear hany hf hfi
    go_enter Try.func55, Try.ntmps55
    go_wp2_with (go_at_call 57; refine (HI.out _ (Below.refl _ _)).mono ?_; rintro e w1 ⟨rfl, hb0⟩)
    go_loopw [6, 5] (fun v6 v5 W => ∃ (j i : Nat) (cur1 : Array Value), i < j ∧ j ≤ l.length ∧ v6 = .int .i64 j ∧ v5 = .int .i64 i ∧ W.heap[g]? = some (.cells cur1 9 (0, 0)) ∧ cur1.size = cap ∧ cur1.toList.take i = ((l.take j).filter fun s => !del s).map .string ∧ i = ((l.take j).filter fun s => !del s).length ∧ (∀ q, j ≤ q → cur1[q]? = cur[q]?) ∧ Below g w W) (fun v6 _ _ => l.length - (intOf v6).toNat)
    case atStart =>
      refine ⟨i0 + 1, i0, cur, by omega, by omega, by go_num, rfl, (hb0.block g hlt).trans HH.out, hsz, ?_, ?_, fun q _ => rfl, hb0.mono (by omega)⟩
      · rw [HFI.out, List.map_take, ← HC.out, List.take_take]
        congr 1
        omega
      · rw [HFI.out, List.length_take]
        omega
    case round =>
      clear hb0 HI HFI hi0
      obtain ⟨j, i, cur1, hij, hj, rfl, rfl, hg1, hsz1, htk, hlen, hrest, hb⟩ := hrel
      have HTK := Go.Lib.hid htk
      have HRE := Go.Lib.hid hrest
      have HLE := Go.Lib.hid hlen
      clear htk hrest hlen
      by_cases hjt : j < l.length
      · have hc : wr.cell? ⟨g, j, none⟩ = some (.string (l.getD j ByteArray.empty)) := by
          rw [h_cell hg1 j, HRE.out j (by omega)]
          exact cur_s HC.out hjt
        obtain ⟨x0, hx0⟩ : ∃ x, cur1[i]? = some x := ⟨_, Array.getElem?_eq_getElem (by omega)⟩
        have HF := Go.Lib.hid (filter_take del l hjt)
        have hcall := fun W hW => HD.out W _ (mem_s l hjt) hW
        generalize l.getD j ByteArray.empty = s at *
        cases hp : del s
        · rw [hp] at hcall HF
          have HCA := Go.Lib.hid hcall
          have HG := Go.Lib.hid hg1
          clear hp hcall hg1
          go_wp2_with (go_at_call 56; refine (HCA.out _ hb).mono ?_; rintro e w2 ⟨rfl, hb2⟩; have hg2 := (hb2.block g (lt_heap HG.out)).trans HG.out; have hci2 : w2.cell? ⟨g, i, none⟩ = some x0 := (h_cell hg2 i).trans hx0; have hfi2 := h_frozen hg2 i)
          go_roundw
          case rel =>
            have hst := h_set (i := i) hg2 (.string s)
            refine ⟨j + 1, i + 1, _, by omega, by omega, by go_num, by go_num, hst, by simpa using hsz1, ?_, ?_, fun q hq => ?_, ?_⟩
            · rw [HF.out, List.map_append, ← HTK.out, if_neg (by decide)]
              show _ = List.take i cur1.toList ++ [Value.string s]
              rw [Array.toList_setIfInBounds, List.take_set_succ_ (by rw [Array.length_toList]; omega)]
            · rw [HF.out, if_neg (by decide), List.length_append, ← HLE.out]; rfl
            · rw [Array.getElem?_setIfInBounds_ne (by omega)]
              exact HRE.out q (by omega)
            · exact (hb.trans (hb2.mono (by have := lt_heap HG.out; omega))).setCell (Nat.le_refl _) _
          case measure => simp [intOf]; omega
        · rw [hp] at hcall HF
          have HCA := Go.Lib.hid hcall
          have HG := Go.Lib.hid hg1
          clear hp hcall hg1 hx0
          go_wp2_with (go_at_call 56; refine (HCA.out _ hb).mono ?_; rintro e w2 ⟨rfl, hb2⟩)
          go_roundw
          case rel => exact ⟨j + 1, i, cur1, by omega, by omega, by go_num, rfl, (hb2.block g (lt_heap HG.out)).trans HG.out, hsz1, by rw [HF.out, if_pos trivial, List.append_nil]; exact HTK.out, by rw [HF.out, if_pos trivial, List.append_nil]; exact HLE.out, fun q hq => HRE.out q (by omega), hb.trans (hb2.mono (by have := lt_heap HG.out; omega))⟩
          case measure => simp [intOf]; omega
      · have hj2 : j = l.length := by omega
        subst hj2
        obtain ⟨i9, hi9, hz9, hsz9, _⟩ := info_parts info9
        have hcf : ∀ W : World, (Instr.slice 22 (.slice (some ⟨g, 0, none⟩) l.length cap) (some (.int .i64 (i : Int))) none none).run Try.prog W = .ok (.slice (some ⟨g, i, none⟩) (l.length - i) (cap - i)) W := fun W => by
          have := cut_from (P := Try.prog) 22 9 .i64 Try.underlying22 hi9 1 hsz9 (some ⟨g, 0, none⟩) l.length cap (i : Int) (by omega) (by omega) W
          rw [this, if_neg (by omega)]
          simp [Addr.add] <;> omega
        have hct : ∀ W : World, (Instr.slice 22 (.slice (some ⟨g, 0, none⟩) l.length cap) none (some (.int .i64 (i : Int))) none).run Try.prog W = .ok (.slice (some ⟨g, 0, none⟩) i cap) W := fun W => by
          have := cut_to (P := Try.prog) 22 9 .i64 Try.underlying22 hi9 (some ⟨g, 0, none⟩) l.length cap (i : Int) (by omega) (by omega) hcap W
          rw [this]
          rfl
        have hcl : ∀ ty, (Builtin.clear_ #[22] ty #[.slice (some ⟨g, i, none⟩) (l.length - i) (cap - i)]).run Try.prog wr = .ok (.tuple #[]) (wr.setCells g i (List.replicate (l.length - i) (.string ⟨#[]⟩))) := fun ty => by
          refine Lib.run_clear_slice wr 22 9 ty (.string ⟨#[]⟩) Try.underlying22 (fun W => ?_) rfl rfl g i _ _ (by omega) (fun q hq => ?_) (fun q hq => h_frozen hg1 _)
          · simp [go_sem]
          · rw [h_cell hg1, Array.getElem?_eq_getElem (by omega)]; rfl
        obtain ⟨cur2, hg2, hsz2, hl2⟩ := setCells_row (List.replicate (l.length - i) (.string ⟨#[]⟩)) i wr cur1 hg1 (by rw [List.length_replicate]; omega)
        obtain ⟨s1, s2, s3, s4⟩ := setCells_same g (List.replicate (l.length - i) (.string ⟨#[]⟩)) i wr
        have hb3 : Below g wr (wr.setCells g i (List.replicate (l.length - i) (.string ⟨#[]⟩))) := ⟨s1, s2, s3, by rw [s4]; exact Nat.le_refl _, fun k hk => setCells_far _ _ k (by omega)⟩
        have hb4 := hb.trans hb3
        have HG2 := Go.Lib.hid hg2
        have HL2 := Go.Lib.hid hl2
        generalize wr.setCells g i (List.replicate (l.length - i) (.string ⟨#[]⟩)) = w4 at *
        clear hi9 hz9 hsz9 s1 s2 s3 s4 hg2 hl2 hg1
        go_wp2
        go_ret
        have hll : l.take l.length = l := List.take_of_length_le (by omega)
        have h1 := HTK.out
        have h2 := HLE.out
        rw [hll] at h1 h2
        refine ⟨cur2, by rw [← h2]; rfl, HG2.out, by omega, ?_, hb4⟩
        rw [← h2, ← h1, HL2.out, List.append_assoc, List.take_append_of_le_length (by rw [List.length_take, Array.length_toList]; omega), List.take_take, Nat.min_self]
theorem clip_calls (A : Option Addr) (n cap : Nat) (w : World) (hn : n ≤ cap) :
    Calls Try.prog 54 #[.slice A n cap] w fun e w' => e = .returned (.slice A n n) ∧ w' = w := by
  obtain ⟨i9, hi9, hz9, hsz9, _⟩ := info_parts info9
  go_enter Try.func54, Try.ntmps54
  go_wp2
  go_ret
  exact ⟨rfl, rfl⟩
theorem idx_nil (pt pn : Value) (w : World) :
    Calls Try.prog 57 #[.slice none 0 0, .func (.func 56) #[] #[pt, pn]] w fun e w' => e = .returned (.int .i64 (-1)) ∧ w' = w := by
  go_enter Try.func57, Try.ntmps57
  go_wp2
  go_loop [8] (fun v8 => v8 = .int .i64 0) (fun _ => 0)
  case atStart => rfl
  case round =>
    subst hrel
    go_wp2
    go_ret
    exact ⟨rfl, rfl⟩
theorem del_any (pt pn : Value) (v : Value) (l : List ByteArray) (base : Nat) (w : World) (hv : w.ownsRow base 9 1 v l.length (encs Value.string l)) (hbase : base ≤ w.heap.size) (hl : l.length ≤ 100) (del : ByteArray → Bool)
    (hd : ∀ W s, s ∈ l → Below base w W → Calls Try.prog 56 #[.string s, pt, pn] W fun e w' => e = .returned (.bool (del s)) ∧ Below W.heap.size W w') :
    Calls Try.prog 55 #[v, .func (.func 56) #[] #[pt, pn]] w fun e w' => ∃ A c, e = .returned (.slice A (l.filter fun s => !del s).length c) ∧ (l.filter fun s => !del s).length ≤ c ∧ KdU.R Kd.string 9 w' base (fun k => base ≤ k) (.slice A (l.filter fun s => !del s).length (l.filter fun s => !del s).length) (l.filter fun s => !del s) ∧ Below base w w' := by
  obtain ⟨h1, ⟨rfl, h0⟩ | ⟨g, cap, cur, rfl, hg, hh, hnc, hcm, hcs, ht⟩⟩ := hv
  · obtain rfl := List.eq_nil_of_length_eq_zero h0
    have hi := idx_nil pt pn
    have HI := Go.Lib.hid hi
    clear hi hd h1
    go_enter Try.func55, Try.ntmps55
    go_wp2_with (go_at_call 57; refine (HI.out _).mono ?_; rintro e w' ⟨rfl, rfl⟩)
    go_ret
    exact ⟨none, 0, rfl, Nat.le_refl _, KdU.R_nil _ _ _ _ _, Below.refl _ _⟩
  · refine (del_calls pt pn g cap l cur w hh (by rw [Nat.mul_one] at ht; exact ht) hl hnc (by omega) del (fun W s hs hb => hd W s hs (hb.mono hg))).mono ?_
    rintro e w' ⟨cur', rfl, hg', hsz', ht', hb'⟩
    have hlen : (l.filter fun s => !del s).length ≤ cap := Nat.le_trans (List.length_filter_le _ _) hnc
    have hlen2 : (l.filter fun s => !del s).length ≤ 100 := Nat.le_trans (List.length_filter_le _ _) hl
    exact ⟨some ⟨g, 0, none⟩, cap, rfl, hlen, ⟨fun k hk => by rw [KdU.own_some] at hk; injection hk with hk; omega, .inr ⟨g, _, cur', rfl, hg, hg', Nat.le_refl _, by omega, by omega, ht'⟩⟩, hb'.mono hg⟩
def kept (l : List ByteArray) (need : Int) (s : ByteArray) : Bool := !decide (((cnt l s.data.toList : Nat) : Int) < need)
theorem few_ready (w w2 w3 : World) (a2 : Int) (l0 o : List ByteArray) (m : Pre → Nat) (hb2 : Below (w.alloc (.cells #[.int .i64 a2] 3)).heap.size (w.alloc (.cells #[.int .i64 a2] 3)) w2) (hb3 : Below w2.heap.size w2 w3) (hT : Tree w3 w2.heap.size m (cnt l0))
    (hok : ∀ s ∈ o, s.size ≤ 140737488351232 ∧ s.data.toList.all ab = true) :
    Below w.heap.size w (w3.alloc (.cells #[.pointer (some ⟨m [], 0, none⟩)] 53)) ∧ ∀ W s, s ∈ o → Below (w3.alloc (.cells #[.pointer (some ⟨m [], 0, none⟩)] 53)).heap.size (w3.alloc (.cells #[.pointer (some ⟨m [], 0, none⟩)] 53)) W →
      Calls Try.prog 56 #[.string s, .pointer (some ⟨w3.heap.size, 0, none⟩), .pointer (some ⟨w.heap.size, 0, none⟩)] W fun e w' => e = .returned (.bool (!kept l0 a2 s)) ∧ Below W.heap.size W w' := by
  have hb1 : Below w.heap.size w (w.alloc (.cells #[.int .i64 a2] 3)) := (Below.refl _ w).alloc (Nat.le_refl _) _
  have hz1 : (w.alloc (.cells #[.int .i64 a2] 3)).heap.size = w.heap.size + 1 := by simp
  have hb13 := hb2.trans (hb3.mono hb2.size)
  have hz4 : (w3.alloc (.cells #[.pointer (some ⟨m [], 0, none⟩)] 53)).heap.size = w3.heap.size + 1 := by simp
  have hb34 : Below w3.heap.size w3 (w3.alloc (.cells #[.pointer (some ⟨m [], 0, none⟩)] 53)) := (Below.refl _ w3).alloc (Nat.le_refl _) _
  have hb14 := hb13.trans (hb34.mono hb13.size)
  refine ⟨hb1.trans (hb14.mono hb1.size), fun W s hs hW => ?_⟩
  have := hb13.size
  have e : (!kept l0 a2 s) = decide (((cnt l0 s.data.toList : Nat) : Int) < a2) := by simp [kept]
  rw [e]
  refine few_calls s W (hok s hs).1 ((hT.below (Nat.le_refl _) hb34).below (Nat.le_refl _) hW) (hok s hs).2 w3.heap.size w.heap.size a2 ?_ ?_
  · rw [hW.block _ (by omega)]
    exact heap_new rfl
  · rw [hW.block _ (by omega), hb14.block _ (by omega)]
    exact heap_new rfl
def impl_HeavyStep.f (k : Nat) (a0 a1 : List ByteArray) (a2 : Int) : Option (List ByteArray) := (impl_WordsOk.f a0).bind fun t => if t = true then ((impl_HeavyNext.f k a1).bind fun o => if (o.length ≤ 100 ∧ ∀ s ∈ o, s.size ≤ 140737488351232 ∧ s.data.toList.all ab = true) then some (o.filter (kept a0 a2)) else none) else some []
theorem impl_HeavyStep.mono : ∀ a0 a1 a2 k, LeO (impl_HeavyStep.f k a0 a1 a2) (impl_HeavyStep.f (k + 1) a0 a1 a2) := by
  intro a0 a1 a2 k
  unfold impl_HeavyStep.f
  exact LeO.bind (LeO.refl _) (fun t => LeO.ite (LeO.bind (impl_HeavyNext.mono _ _) (fun _ => LeO.refl _)) (LeO.refl _))
set_option maxHeartbeats 2000000 in
theorem impl_HeavyStep.calls (k : Nat) (A0 : Option Addr) (c0 : Nat) (l0 : List ByteArray) (A1 : Option Addr) (c1 : Nat) (l1 : List ByteArray) (a2 : Int) (r : List ByteArray) (w : World) (hr0 : Kd.C Kd.string w A0 l0.length l0) (hc0 : l0.length ≤ c0) (hr1 : Kd.C Kd.string w A1 l1.length l1) (hc1 : l1.length ≤ c1) (h : impl_HeavyStep.f k l0 l1 a2 = some r) :
    Calls Try.prog 34 #[.slice A0 l0.length c0, .slice A1 l1.length c1, .int .i64 a2] w fun e w' => ∃ v0_ : Value, e = .returned (v0_) ∧ KdU.R Kd.string 9 w' w.heap.size (fun _ => True) v0_ r ∧ Below w.heap.size w w' := by
  unfold impl_HeavyStep.f at h
  obtain ⟨t, ht, h⟩ := Option.bind_eq_some_iff.1 h
  have hb1 : Below w.heap.size w (w.alloc (.cells #[.int .i64 a2] 3)) := (Below.refl _ w).alloc (Nat.le_refl _) _
  have HW := Go.Lib.hid ht
  have HR0 := Go.Lib.hid hr0
  have HC0 := Go.Lib.hid hc0
  have HR1 := Go.Lib.hid hr1
  have HC1 := Go.Lib.hid hc1
  clear hr0 hc0 hr1 hc1
  cases t
  · rw [if_neg (by decide)] at h
    obtain rfl := Option.some.inj h
    clear h ht
    go_enter Try.func34, Try.ntmps34
    go_wp2_with (go_at_call 21; refine (impl_WordsOk.calls A0 c0 l0 false _ (Kd.C_below HR0.out hb1) HC0.out HW.out).mono ?_; rintro e w2 ⟨rfl, hb⟩)
    go_ret
    exact ⟨_, rfl, KdU.R_nil _ _ _ _ _, hb1.trans (hb.mono hb1.size)⟩
  · rw [if_pos rfl] at h
    obtain ⟨h12, hs⟩ := words_of ht
    have HS := Go.Lib.hid hs
    obtain ⟨o, ho, h⟩ := Option.bind_eq_some_iff.1 h
    split at h
    · rename_i hok
      obtain rfl := Option.some.inj h
      have HO := Go.Lib.hid ho
      have HOK := Go.Lib.hid hok
      have hbn : (w.alloc (.cells #[.int .i64 a2] 3)).heap[w.heap.size]? = some (.cells #[.int .i64 a2] 3 (0, 0)) := heap_new rfl
      have HBN := Go.Lib.hid hbn
      have HB1 := Go.Lib.hid hb1
      have hz1 : (w.alloc (.cells #[.int .i64 a2] 3)).heap.size = w.heap.size + 1 := by simp
      clear h ho hok hs ht hbn hb1
      go_enter Try.func34, Try.ntmps34
      go_wp2_with (first | (go_at_call 21; refine (impl_WordsOk.calls A0 c0 l0 true _ (Kd.C_below HR0.out HB1.out) HC0.out HW.out).mono ?_; rintro e w2 ⟨rfl, hb2⟩) | (go_at_call 52; refine (treeOf_calls A0 c0 l0 _ (Kd.C_below (Kd.C_below HR0.out HB1.out) hb2) h12 HS.out).mono ?_; rintro e w3 ⟨m, rfl, hT, hb3⟩; obtain ⟨hb4, hfew⟩ := few_ready w w2 w3 a2 l0 o m hb2 hb3 hT HOK.out.2; have HF := Go.Lib.hid hfew; clear hfew hT) | (go_at_call 25; refine (impl_HeavyNext.calls k A1 c1 l1 o _ (Kd.C_below HR1.out hb4) HC1.out HO.out).mono ?_; rintro e w5 ⟨v5, rfl, hR, hb5⟩; have HOWN := Go.Lib.hid (Kd.own_of_R (enc := Value.string) (h1 := fun _ => rfl) hR); clear hR) | (go_at_call 55; refine (del_any _ _ v5 o _ _ HOWN.out hb5.size HOK.out.1 (fun s => !kept l0 a2 s) (fun W s hs hW => HF.out W s hs (hb5.trans hW))).mono ?_; rintro e w6 ⟨A6, c6, rfl, hle, hFF, hb6⟩; simp only [Bool.not_not] at hle hFF) | (go_at_call 54; refine (clip_calls A6 _ c6 _ hle).mono ?_; rintro e w7 ⟨rfl, rfl⟩))
      go_ret
      have hbw := hb4.trans ((hb5.trans hb6).mono hb4.size)
      exact ⟨_, rfl, KdU.R_mono (KdU.R_lower hFF hb4.size) (fun _ _ => trivial), hbw⟩
    · cases h

end Go.Proofs.Ytdjenclegglmfaa.PFnExactHeavyStep
