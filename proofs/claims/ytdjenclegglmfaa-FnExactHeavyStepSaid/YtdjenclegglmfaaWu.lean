/- A row of texts of the call's own whose capacity may have been cut (slices.Clip): the block may be longer than the capacity. What the printed walks ask of such a row. It has no conditions of its own. -/
import Derived.Test.YtdjenclegglmfaaWWords
import Derived.Test.YtdjenclegglmfaaWApart
import Derived.Test.YtdjenclegglmfaaWKept
import Derived.Test.YtdjenclegglmfaaWMore
namespace Go.Proofs.YtdjenclegglmfaaW.PrintWords
open Go.RowKit Go.Proofs.YtdjenclegglmfaaW.PrintLast Go.Proofs.YtdjenclegglmfaaW.PrintMore
set_option linter.unusedVariables false
namespace KdU
def R (_ : Kd ByteArray) (e : Nat) (w : World) (base : Nat) (ok : Nat → Prop) (v : Value) (xs : List ByteArray) : Prop :=
  (∀ k, v.ownBlock = some k → ok k) ∧ ((v = .slice none 0 0 ∧ xs = []) ∨ ∃ (g cap : Nat) (cur : Array Value), v = .slice (some ⟨g, 0, none⟩) xs.length cap ∧ base ≤ g ∧ w.heap[g]? = some (.cells cur e (0, 0)) ∧ xs.length ≤ cap ∧ xs.length ≤ 9223372036854775807 ∧ xs.length ≤ cur.size ∧ cur.toList.take xs.length = xs.map Value.string)
section
variable {d : Kd ByteArray} {e base b' : Nat} {w w1 W W2 : World} {ok ok' ok1 : Nat → Prop} {u v : Value} {xs : List ByteArray} {S : Nat → Prop} {g cap n : Nat}
theorem own_some {g j n c : Nat} : (Value.slice (some ⟨g, j, none⟩) n c).ownBlock = some g := by simp [Value.ownBlock]
theorem of_R (h : Kd.R Kd.string e w base ok v xs) : R d e w base ok v xs := by
  have ho := Kd.own_of_R h
  refine ⟨h.1, ?_⟩
  obtain ⟨h1, ⟨rfl, h0⟩ | ⟨g, cap, cur, rfl, hg, hh, hnc, hcm, hcs, ht⟩⟩ := ho
  · exact .inl ⟨rfl, List.eq_nil_of_length_eq_zero h0⟩
  · rw [Nat.mul_one] at ht hcs
    exact .inr ⟨g, cap, cur, rfl, hg, hh, hnc, Nat.le_trans hnc hcm, by omega, ht⟩
theorem R_nil (d : Kd ByteArray) (e : Nat) (w : World) (base : Nat) (ok : Nat → Prop) : R d e w base ok (.slice none 0 0) [] := ⟨fun k hk => by simp [Value.ownBlock] at hk, .inl ⟨rfl, rfl⟩⟩
theorem R_mono (h : R d e w base ok v xs) (hok : ∀ k, ok k → ok' k) : R d e w base ok' v xs := ⟨fun k hk => hok k (h.1 k hk), h.2⟩
theorem R_lower (h : R d e w base ok v xs) (hb : b' ≤ base) : R d e w b' ok v xs := by
  refine ⟨h.1, h.2.imp id ?_⟩
  rintro ⟨g, cap, cur, h1, h2, r⟩
  exact ⟨g, cap, cur, h1, Nat.le_trans hb h2, r⟩
theorem R_lt (h : R d e w base ok v xs) : ∀ k, v.ownBlock = some k → k < w.heap.size := by
  intro k hk
  rcases h.2 with ⟨rfl, _⟩ | ⟨g, cap, cur, rfl, _, hh, _⟩
  · simp [Value.ownBlock] at hk
  · rw [own_some] at hk
    injection hk with hk
    subst hk
    exact (Array.getElem?_eq_some_iff.1 hh).1
theorem R_base (h : R d e w base ok v xs) : ∀ k, v.ownBlock = some k → base ≤ k := by
  intro k hk
  rcases h.2 with ⟨rfl, _⟩ | ⟨g, cap, cur, rfl, hb, _⟩
  · simp [Value.ownBlock] at hk
  · rw [own_some] at hk
    injection hk with hk
    subst hk
    exact hb
theorem R_move (h : R d e w base ok v xs) (hm : ∀ k, v.ownBlock = some k → w1.heap[k]? = w.heap[k]?) : R d e w1 base ok v xs := by
  refine ⟨h.1, h.2.imp id ?_⟩
  rintro ⟨g, cap, cur, h1, h2, hh, r⟩
  exact ⟨g, cap, cur, h1, h2, (hm g (by rw [h1]; exact own_some)).trans hh, r⟩
theorem R_below (h : R d e w base ok v xs) (hb : Below w.heap.size w w1) : R d e w1 base ok v xs := R_move h (fun k hk => hb.block k (R_lt h k hk))
theorem R_alloc (h : R d e w base ok v xs) (o : Obj) : R d e (w.alloc o) base ok v xs := R_below h (below_alloc (Below.refl _ _) o)
theorem R_drew (h : R d e w base ok v xs) : R d e w.drew base ok v xs := R_below h (below_drew (Below.refl _ _))
theorem R_drewN (h : R d e w base ok v xs) (m : Nat) : R d e (w.drewN m) base ok v xs := R_below h (pw_below_drewN (Below.refl _ _) m)
theorem R_tight (_ : d.E = []) (h : R d e w base ok v xs) : R d e w base (fun k => some k = v.ownBlock) v xs := ⟨fun k hk => hk.symm, h.2⟩
theorem R_reok (_ : d.E = []) (h : R d e W base ok1 v xs) (hok : ∀ k, v.ownBlock = some k → ok k) : R d e W base ok v xs := ⟨hok, h.2⟩
theorem R_elder' (hu : R d e W base ok u xs) (hbase : ∀ k, v.ownBlock = some k → W.heap.size ≤ k) (hb : Below W.heap.size W w1) : R d e w1 base (fun k => ok k ∧ some k ≠ v.ownBlock) u xs :=
  ⟨fun k hk => ⟨hu.1 k hk, fun he => by have := hbase k he.symm; have := R_lt hu k hk; omega⟩, (R_below hu hb).2⟩
theorem R_new' (h : R d e w1 W.heap.size ok v xs) (hlt : ∀ k, u.ownBlock = some k → k < W.heap.size) : R d e w1 W.heap.size (fun k => ok k ∧ some k ≠ u.ownBlock) v xs :=
  ⟨fun k hk => ⟨h.1 k hk, fun he => by have := hlt k he.symm; have := R_base h k hk; omega⟩, h.2⟩
theorem R_keptB (h : R d e W base ok v xs) (hk : Kept W W2 S) (hne : ∀ k, ok k → ¬ S k) : R d e W2 base (fun k => ok k ∧ (¬ S k ∧ k < W.heap.size)) v xs :=
  ⟨fun k hk2 => ⟨h.1 k hk2, hne k (h.1 k hk2), R_lt h k hk2⟩, (R_move h (fun k hk2 => hk.2 k (R_lt h k hk2) (hne k (h.1 k hk2)))).2⟩
theorem R_slice (h : R d e w base ok v xs) : ∃ A c, v = .slice A xs.length c := by
  rcases h.2 with ⟨rfl, rfl⟩ | ⟨g, cap, cur, rfl, _⟩
  · exact ⟨none, 0, rfl⟩
  · exact ⟨_, _, rfl⟩
theorem cell_of {cur : Array Value} {i : Nat} (hh : w.heap[g]? = some (.cells cur e (0, 0))) (ht : cur.toList.take xs.length = xs.map Value.string) (hi : i < xs.length) : w.cell? ⟨g, i, none⟩ = some (.string (xs.getD i ByteArray.empty)) := by
  have h2 := congrArg (fun x => x[i]?) ht
  simp only [List.getElem?_take, List.getElem?_map] at h2
  rw [if_pos hi] at h2
  have h3 : cur[i]? = some (.string (xs.getD i ByteArray.empty)) := by
    rw [← Array.getElem?_toList, h2, List.getD_eq_getElem?_getD, List.getElem?_eq_getElem hi]
    rfl
  simp [World.cell?, hh, h3]
theorem R_reads' {A : Option Addr} {n c : Nat} (h : R d e w base ok (.slice A n c) xs) : n = xs.length ∧ n ≤ c ∧ Kd.C Kd.string w A xs.length xs := by
  rcases h.2 with ⟨h1, rfl⟩ | ⟨g, cap, cur, h1, _, hh, hc, hm, hz, ht⟩
  · injection h1 with h1 h2 h3
    subst h1 h2 h3
    exact ⟨rfl, Nat.le_refl _, Kd.C_nil _ _⟩
  · injection h1 with h1 h2 h3
    subst h1 h2 h3
    refine ⟨rfl, hc, rfl, hm, fun hn => ⟨_, rfl, fun j p hj => ⟨[.string p], rfl, rfl, fun i u hu => ?_⟩⟩⟩
    have hj' := (List.getElem?_eq_some_iff.1 hj).1
    have hi : i = 0 := by
      have := (List.getElem?_eq_some_iff.1 hu).1
      have e1 : ([Value.string p] : List Value).length = 1 := rfl
      omega
    subst hi
    simp only [List.getElem?_cons_zero, Option.some.injEq] at hu
    subst hu
    have hsz : (Kd.string).sz = 1 := rfl
    have ha : (⟨g, 0, none⟩ : Addr).add (j * (Kd.string).sz + 0) = ⟨g, j, none⟩ := by
      rw [hsz]
      show Addr.add _ (j * 1 + 0) = _
      unfold Addr.add
      by_cases hj0 : j = 0 <;> simp [hj0]
    rw [ha, cell_of hh ht hj', List.getD_eq_getElem?_getD, hj]
    rfl
theorem R_form (h : R d e w base ok v xs) (hp : 0 < xs.length) : ∃ g cap, v = .slice (some ⟨g, 0, none⟩) xs.length cap ∧ base ≤ g ∧ g < w.heap.size ∧ ∃ cells, w.heap[g]? = some (.cells cells e (0, 0)) := by
  rcases h.2 with ⟨_, rfl⟩ | ⟨g, cap, cur, rfl, hb, hh, _⟩
  · simp at hp
  · exact ⟨g, cap, rfl, hb, (Array.getElem?_eq_some_iff.1 hh).1, cur, hh⟩
theorem R_celln (z : ByteArray) (h : R d e W base ok (.slice (some ⟨g, 0, none⟩) n cap) xs) (i : Int) (h0 : 0 ≤ i) (hi : i < n) : W.cell? ⟨g, i.toNat, none⟩ = some (.string (rdOf z xs i)) ∧ W.frozen? ⟨g, i.toNat, none⟩ = false := by
  rcases h.2 with ⟨h1, _⟩ | ⟨g', cap', cur, h1, _, hh, hc, hm, hz, ht⟩
  · injection h1 with h1
    cases h1
  · injection h1 with h1 h2 h3
    injection h1 with h1
    injection h1 with h1
    subst h1 h2
    have hi' : i.toNat < xs.length := by omega
    refine ⟨?_, by simp [World.frozen?, hh]⟩
    rw [cell_of hh ht hi']
    unfold rdOf
    rw [List.getD_eq_getElem?_getD, List.getD_eq_getElem?_getD, List.getElem?_eq_getElem hi']
    rfl
theorem R_putg (h : R d e W base ok (.slice (some ⟨g, 0, none⟩) n cap) xs) (i : Int) (x : ByteArray) : R d e (W.setCell ⟨g, i.toNat, none⟩ (.string x)) base ok (.slice (some ⟨g, 0, none⟩) n cap) (xs.set i.toNat x) ∧ W.grownBy (W.setCell ⟨g, i.toNat, none⟩ (.string x)) (some g) := by
  rcases h.2 with ⟨h1, _⟩ | ⟨g', cap', cur, h1, hb, hh, hc, hm, hz, ht⟩
  · injection h1 with h1
    cases h1
  · injection h1 with h1 h2 h3
    injection h1 with h1
    injection h1 with h1
    subst h1 h2 h3
    have hlt := (Array.getElem?_eq_some_iff.1 hh).1
    refine ⟨⟨h.1, .inr ⟨g, cap, cur.setIfInBounds i.toNat (.string x), by rw [List.length_set], hb, ?_, by rw [List.length_set]; exact hc, by rw [List.length_set]; exact hm, by rw [List.length_set, Array.size_setIfInBounds]; exact hz, ?_⟩⟩, ?_⟩
    · by_cases hi : i.toNat < cur.size
      · exact blk_put hh _ _ (by simp)
      · have e1 : cur.setIfInBounds i.toNat (.string x) = cur := Array.setIfInBounds_eq_of_size_le (by omega)
        rw [e1]
        exact blk_put hh _ _ e1
    · rw [List.length_set, Array.toList_setIfInBounds, List.map_set, ← ht, List.take_set]
    · exact ⟨rfl, rfl, rfl, by simp [World.setCell], fun k _ hne => Below.heap_setCell _ _ _ _ (fun e1 => hne (by simp [e1]))⟩
end
section
variable {P : Program} {ops : Array Oper} {rest : List Oper} {o : Oper} {a : Act} {Q : Exit → Act → World → Prop}
theorem R_lit (d : Kd ByteArray) {w0 W : World} (base e : Nat) (hgd : o.guard = none) {N : Tmp} (_hd : o.dst = some N) {xs : List ByteArray} {inner : List Value} {ok okp : Nat → Prop}
    (hrun : (execOp a.eval o).run P W = .ok (.value (.slice (some ⟨W.heap.size, 0, none⟩) xs.length xs.length)) (W.alloc (.cells inner.toArray e)))
    (hrep : Reps (Kd.string.M W base okp) Kd.string.sz xs inner) (hok : ∀ k, okp k → ok k) (hfresh : ok W.heap.size) (HB : Below base w0 W) (hbase : base ≤ W.heap.size) (hm : xs.length ≤ 9223372036854775807)
    (h : ∀ v1 w1, R d e w1 base ok v1 xs → Below base w0 w1 → W.grownBy w1 none → (∃ b, v1.ownBlock = some b ∧ W.heap.size ≤ b) → wpList P ops Q rest (a.put o.dst v1) w1) : wpList P ops Q (o :: rest) a W :=
  Kd.R_lit Kd.string base e hgd _hd hrun hrep hok hfresh HB hbase hm (fun v1 w1 h1 h2 h3 h4 => h v1 w1 (of_R h1) h2 h3 h4)
end
end KdU
end Go.Proofs.YtdjenclegglmfaaW.PrintWords
