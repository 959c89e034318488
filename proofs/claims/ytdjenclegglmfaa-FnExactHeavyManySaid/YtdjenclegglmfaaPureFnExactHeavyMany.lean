/- HeavyMany tells what the reference tells, for any texts, and leaves its argument alone. It has no conditions. -/
import Derived.Test.YtdjenclegglmfaaPFnExactHeavyManyx3
import Derived.Test.YtdjenclegglmfaaPb
namespace Go.Proofs.Ytdjenclegglmfaa.Pure
open Go.RowKit Go.Proofs.Ytdjenclegglmfaa.PFnExactHeavyMany Go.Proofs.YtdjenclegglmfaaW.PrintWords Go.Proofs.YtdjenclegglmfaaW.PrintLast Go.Proofs.Ytdjenclegglmfaa.Pb
set_option linter.unusedVariables false
set_option linter.unusedSimpArgs false

theorem byte_eq {c : UInt8} {n : Nat} (hn : n < 256) : ((c.toNat : Int) = (n : Int)) ↔ c = UInt8.ofNat n := by
  constructor
  · intro h
    apply UInt8.toNat_inj.1
    rw [UInt8.toNat_ofNat']
    omega
  · rintro rfl
    rw [UInt8.toNat_ofNat']
    omega
theorem byte_97 {c : UInt8} : ((c.toNat : Int) = 97) ↔ c = 97 := byte_eq (n := 97) (by omega)
theorem byte_98 {c : UInt8} : ((c.toNat : Int) = 98) ↔ c = 98 := byte_eq (n := 98) (by omega)
theorem bytes_drop {s : ByteArray} {i : Nat} (h : i < s.size) : s.data.toList.drop i = s.data.toList.getD i 0 :: s.data.toList.drop (i + 1) := by
  have h2 : i < s.data.toList.length := by simpa using h
  rw [List.getD_eq_getElem?_getD, List.getElem?_eq_getElem h2, Option.getD_some]
  exact List.drop_eq_getElem_cons h2
def Bound (l : List ByteArray) : Prop := l.length ≤ 1125899906842624 ∧ ∀ s ∈ l, s.size ≤ 140737488351232

def wOk (l : List ByteArray) : Bool := decide ((l.length : Int) ≤ 12) && l.all fun s => !badW s
theorem wOk_any (l : List ByteArray) : wOk l = (decide ((l.length : Int) ≤ 12) && !l.any badW) := by
  unfold wOk
  rw [List.not_any_eq_all_not]
theorem wOk_sub {l m : List ByteArray} (h : wOk l = true) (hl : m.length ≤ l.length) (hm : ∀ s ∈ m, s ∈ l) : wOk m = true := by
  unfold wOk at h ⊢
  rw [Bool.and_eq_true, List.all_eq_true] at h ⊢
  exact ⟨by have := of_decide_eq_true h.1; exact decide_eq_true (by omega), fun s hs => h.2 s (hm s hs)⟩
theorem wOk_bad {l : List ByteArray} {s : ByteArray} (hs : s ∈ l) (hb : badW s = true) : wOk l = false := by
  unfold wOk
  rw [Bool.and_eq_false_iff]
  refine .inr ?_
  rw [Bool.eq_false_iff]
  intro e
  have := List.all_eq_true.1 e s hs
  rw [hb] at this
  cases this

theorem byteArray_data_inj {a b : ByteArray} (h : a.data = b.data) : a = b := by
  cases a; cases b; simp at h; rw [h]
theorem isPrefixOf_take {p s : List UInt8} (h : p.length ≤ s.length) : (p.isPrefixOf s = true) ↔ s.take p.length = p := by
  rw [List.isPrefixOf_iff_prefix, List.prefix_iff_eq_take]
  exact ⟨fun h => h.symm, fun h => h.symm⟩
theorem extract_take (s : ByteArray) (n : Nat) : (s.extract 0 n).toList = s.data.toList.take n := by
  rw [ByteArray.toList_eq]
  simp [ByteArray.data_extract]
def mMany (l : List ByteArray) (h : ByteArray) : Int := if wOk l = true ∧ pfx h 3 = true then (cnt l h.data.toList : Nat) else -1
theorem cnt_drop_succ (l : List ByteArray) (p : Pre) (i : Nat) (hi : i < l.length) : cnt (l.drop i) p = (if p.isPrefixOf (rdOf ByteArray.empty l (i : Int)).data.toList = true then 1 else 0) + cnt (l.drop (i + 1)) p := by
  rw [drop_ro ByteArray.empty (xs := l) (i := i) hi]
  unfold cnt
  rw [List.countP_cons]
  omega
theorem cnt_le (l : List ByteArray) (p : Pre) : cnt l p ≤ l.length := List.countP_le_length
theorem wOk_len {l : List ByteArray} (h : wOk l = true) : l.length ≤ 12 := by
  unfold wOk at h
  rw [Bool.and_eq_true] at h
  have := of_decide_eq_true h.1
  omega
theorem wOk_mem {l : List ByteArray} (h : wOk l = true) {s : ByteArray} (hs : s ∈ l) : s.size = 3 ∧ s.data.toList.all ab = true := by
  unfold wOk at h
  rw [Bool.and_eq_true, List.all_eq_true] at h
  have := h.2 s hs
  simp only [badW, pfx, Bool.not_or, Bool.not_not, Bool.and_eq_true] at this
  simp at this
  exact ⟨by omega, by simpa using this.2.1⟩
theorem pfx_size {s : ByteArray} {m : Nat} (h : pfx s (m : Int) = true) : s.size ≤ m := by
  unfold pfx at h
  rw [Bool.and_eq_true] at h
  have := of_decide_eq_true h.2
  omega

theorem laws_szStringS_loop (l : List ByteArray) (hl : l.length ≤ 1125899906842624) (hb : ∀ s ∈ l, s.size ≤ 140737488351232) (m : Nat) : ∀ (i : Nat) (x : Int), i + m = l.length → x ≤ 1048576 → 0 ≤ x → EvE (fun k => laws_szStringS.l0 k l x (i : Int)) (fun r => r < 0 ∨ ∀ s ∈ l.drop i, s.size ≤ 1048576) := by
  induction m with
  | zero =>
    intro i x hi hx hx0
    refine EvE.succ ?_
    simp only [laws_szStringS.l0]
    refine EvE.neg (by omega) (EvE.now _ (.inr ?_))
    rw [List.drop_of_length_le (by omega)]
    intro s hs
    cases hs
  | succ m ih =>
    intro i x hi hx hx0
    have hs := hb _ (mem_ro ByteArray.empty (xs := l) (i := i) (by omega))
    refine EvE.succ ?_
    simp only [laws_szStringS.l0]
    refine EvE.pos (by omega) (EvE.pos (by omega) ?_)
    rw [drop_ro ByteArray.empty (xs := l) (i := i) (by omega)]
    generalize rdOf ByteArray.empty l (i : Int) = s at *
    rw [w64 (x := x - (s.size : Int)) (by omega) (by omega), w64 (x := (i : Int) + 1) (by omega) (by omega)]
    refine EvE.ite (fun e => EvE.now _ (.inl (by decide))) (fun e => ?_)
    refine (ih (i + 1) _ (by omega) (by omega) (by omega)).mono ?_
    rintro r (h | h)
    · exact .inl h
    · refine .inr fun t ht => ?_
      rcases List.mem_cons.1 ht with rfl | ht
      · omega
      · exact h t ht
theorem laws_szStringS_ok (l : List ByteArray) (hl : l.length * 16 ≤ 140737488351232) (hb : ∀ s ∈ l, s.size ≤ 140737488351232) : EvE (fun k => laws_szStringS.f k l 1048576) (fun r => r < 0 ∨ (l.length ≤ 1048576 ∧ ∀ s ∈ l, s.size ≤ 1048576)) := by
  unfold laws_szStringS.f
  rw [w64 (x := 1048576 - (l.length : Int)) (by omega) (by omega)]
  refine EvE.ite (fun e => EvE.now _ (.inl (by decide))) (fun e => ?_)
  refine (laws_szStringS_loop l (by omega) hb l.length 0 _ (by omega) (by omega) (by omega)).mono ?_
  rintro r (h | h)
  · exact .inl h
  · exact .inr ⟨by omega, by simpa using h⟩

theorem laws_toStringS_loop (l : List ByteArray) (hb : l.length ≤ 1125899906842624) (m : Nat) : ∀ (i : Nat) (x : List ByteArray), i + m = l.length → x.length = l.length → x.take i = l.take i → EvE (fun k => laws_toStringS.l0 k l x (i : Int)) (· = l) := by
  induction m with
  | zero =>
    intro i x hi hx ht
    refine EvE.succ ?_
    simp only [laws_toStringS.l0]
    refine EvE.neg (by omega) (EvE.now _ ?_)
    rwa [List.take_of_length_le (by omega), List.take_of_length_le (by omega)] at ht
  | succ m ih =>
    intro i x hi hx ht
    refine EvE.succ ?_
    simp only [laws_toStringS.l0]
    refine EvE.pos (by omega) (EvE.pos (by omega) (EvE.pos (by omega) ?_))
    rw [w64 (x := (i : Int) + 1) (by omega) (by omega), Int.toNat_natCast]
    refine ih (i + 1) _ (by omega) (by simpa using hx) ?_
    rw [take_set_succ (by omega), take_ro ByteArray.empty (by omega), ht]
theorem laws_toStringS_ok (l : List ByteArray) (hb : l.length ≤ 17592186044416) : EvE (fun k => laws_toStringS.f k l) (· = l) := by
  unfold laws_toStringS.f
  refine EvE.pos (by omega) (EvE.pos (by omega) ?_)
  exact laws_toStringS_loop l (by omega) l.length 0 _ (by omega) (by simp) (by simp)

theorem laws_eqStringS_loop (l : List ByteArray) (hb : l.length ≤ 1125899906842624) (m : Nat) : ∀ i : Nat, i + m = l.length → EvE (fun k => laws_eqStringS.l0 k l l (i : Int)) (· = true) := by
  induction m with
  | zero =>
    intro i hi
    refine EvE.succ ?_
    simp only [laws_eqStringS.l0]
    exact EvE.neg (by omega) (EvE.now _ rfl)
  | succ m ih =>
    intro i hi
    refine EvE.succ ?_
    simp only [laws_eqStringS.l0]
    refine EvE.pos (by omega) (EvE.pos (by omega) (EvE.pos (by omega) (EvE.pos (by trivial) ?_)))
    rw [w64 (x := (i : Int) + 1) (by omega) (by omega)]
    exact ih (i + 1) (by omega)
theorem laws_eqStringS_ok (l : List ByteArray) (hb : l.length ≤ 1125899906842624) : EvE (fun k => laws_eqStringS.f k l l) (· = true) := by
  unfold laws_eqStringS.f
  exact EvE.pos (by trivial) (laws_eqStringS_loop l hb l.length 0 (by omega))

theorem spec_l41Head_loop (s : ByteArray) (hs : s.size ≤ 140737488351232) (m : Nat) : ∀ i : Nat, i + m = s.size → EvE (fun k => spec_l41Head.l0 k s (i : Int)) (· = ((s.data.toList.drop i).all ab && decide ((s.size : Int) ≤ 3))) := by
  induction m with
  | zero =>
    intro i hi
    refine EvE.succ ?_
    simp only [spec_l41Head.l0]
    refine EvE.neg (by omega) (EvE.now _ ?_)
    rw [List.drop_of_length_le (by simp; omega)]
    rfl
  | succ m ih =>
    intro i hi
    have h := ih (i + 1) (by omega)
    refine EvE.succ ?_
    simp only [spec_l41Head.l0]
    refine EvE.pos (by omega) (EvE.pos (by omega) ?_)
    rw [bt_nat (by omega), w64 (x := (i : Int) + 1) (by omega) (by omega), bytes_drop (by omega)]
    generalize s.data.toList.getD i 0 = c
    refine EvE.ite (fun e => ?_) (fun e => EvE.ite (fun e2 => ?_) (fun e2 => EvE.now _ ?_))
    · have e := byte_97.1 e
      subst e
      exact h
    · have e2 := byte_98.1 e2
      subst e2
      exact h
    · have f1 : ¬ c = 97 := fun x => e (byte_97.2 x)
      have f2 : ¬ c = 98 := fun x => e2 (byte_98.2 x)
      simp [ab, f1, f2]
theorem spec_l41Head_ok (s : ByteArray) (hs : s.size ≤ 140737488351232) : EvE (fun k => spec_l41Head.f k s) (· = pfx s 3) := by
  exact spec_l41Head_loop s hs s.size 0 (by omega)

theorem spec_WordsOk_loop (l : List ByteArray) (hb : Bound l) (m : Nat) : ∀ i : Nat, i + m = l.length → EvE (fun k => spec_WordsOk.l0 k l (i : Int)) (· = (decide ((l.length : Int) ≤ 12) && (l.drop i).all fun s => !badW s)) := by
  have hl := hb.1
  induction m with
  | zero =>
    intro i hi
    refine EvE.succ ?_
    simp only [spec_WordsOk.l0]
    refine EvE.neg (by omega) (EvE.now _ ?_)
    rw [List.drop_of_length_le (by omega)]
    simp
  | succ m ih =>
    intro i hi
    have h := ih (i + 1) (by omega)
    have hs := hb.2 _ (mem_ro ByteArray.empty (xs := l) (i := i) (by omega))
    refine EvE.succ ?_
    simp only [spec_WordsOk.l0]
    refine EvE.pos (by omega) (EvE.pos (by omega) ?_)
    rw [w64 (x := (i : Int) + 1) (by omega) (by omega), drop_ro ByteArray.empty (xs := l) (i := i) (by omega)]
    generalize rdOf ByteArray.empty l (i : Int) = s at *
    refine EvE.ite (fun e => ?_) (fun e => EvE.now _ ?_)
    · have e : s.size = 3 := by omega
      refine EvE.bind (spec_l41Head_ok s hs) ?_
      rintro _ rfl
      refine EvE.ite (fun e2 => ?_) (fun e2 => EvE.now _ ?_)
      · have : badW s = false := by simp [badW, e, e2]
        simpa [this] using h
      · have : badW s = true := by simp [badW, e2]
        simp [this]
    · have e : ¬ s.size = 3 := by omega
      have : badW s = true := by simp [badW, e]
      simp [this]
theorem spec_WordsOk_ok (l : List ByteArray) (hb : Bound l) : EvE (fun k => spec_WordsOk.f k l) (· = wOk l) := by
  exact spec_WordsOk_loop l hb l.length 0 (by omega)

theorem spec_l41Many_loop (l : List ByteArray) (hl : wOk l = true) (h : ByteArray) (hh : h.size ≤ 3) (m : Nat) : ∀ (i n : Nat), i + m = l.length → n ≤ i → EvE (fun k => spec_l41Many.l0 k l h (n : Int) (i : Int)) (· = ((n + cnt (l.drop i) h.data.toList : Nat) : Int)) := by
  have h12 := wOk_len hl
  induction m with
  | zero =>
    intro i n hi hn
    refine EvE.succ ?_
    simp only [spec_l41Many.l0]
    refine EvE.neg (by omega) (EvE.now _ ?_)
    rw [List.drop_of_length_le (by omega)]
    rfl
  | succ m ih =>
    intro i n hi hn
    have hs := wOk_mem hl (mem_ro ByteArray.empty (xs := l) (i := i) (by omega))
    rw [cnt_drop_succ l _ i (by omega)]
    refine EvE.succ ?_
    simp only [spec_l41Many.l0]
    rw [w64 (x := (i : Int) + 1) (by omega) (by omega), w64 (x := (n : Int) + 1) (by omega) (by omega)]
    generalize rdOf ByteArray.empty l (i : Int) = s at *
    have e : (s.extract 0 ((h.size : Int) : Int).toNat).toList = h.toList ↔ h.data.toList.isPrefixOf s.data.toList = true := by
      rw [Int.toNat_natCast, extract_take, ByteArray.toList_eq, isPrefixOf_take (by simp; omega)]
      simp
    refine EvE.pos (by omega) (EvE.pos (by omega) (EvE.pos (by omega) (EvE.pos (by omega) ?_)))
    refine EvE.ite (fun e2 => ?_) (fun e2 => ?_)
    · rw [if_pos (e.1 e2)]
      have := ih (i + 1) (n + 1) (by omega) (by omega)
      rwa [show n + (1 + cnt (l.drop (i + 1)) h.data.toList) = n + 1 + cnt (l.drop (i + 1)) h.data.toList by omega]
    · rw [if_neg (fun x => e2 (e.2 x)), Nat.zero_add]
      exact ih (i + 1) n (by omega) (by omega)
theorem spec_l41Many_ok (l : List ByteArray) (hl : wOk l = true) (h : ByteArray) (hh : h.size ≤ 3) : EvE (fun k => spec_l41Many.f k l h) (· = ((cnt l h.data.toList : Nat) : Int)) := by
  have := spec_l41Many_loop l hl h hh l.length 0 0 (by omega) (by omega)
  rw [Nat.zero_add, List.drop_zero] at this
  exact this

theorem spec_HeavyMany_ok (l : List ByteArray) (hb : Bound l) (h : ByteArray) (hh : h.size ≤ 140737488351232) : EvE (fun k => spec_HeavyMany.f k l h) (· = mMany l h) := by
  unfold spec_HeavyMany.f mMany
  refine EvE.bind (spec_WordsOk_ok l hb) ?_
  rintro _ rfl
  refine EvE.ite (fun e => ?_) (fun e => EvE.now _ (by rw [if_neg (fun x => e x.1)]))
  refine EvE.bind (spec_l41Head_ok h hh) ?_
  rintro _ rfl
  refine EvE.ite (fun e2 => ?_) (fun e2 => EvE.now _ (by rw [if_neg (fun x => e2 x.2)]))
  rw [if_pos ⟨e, e2⟩]
  refine EvE.tail ?_
  exact spec_l41Many_ok l e h (pfx_size (m := 3) e2)

theorem impl_WordsOk_ok (l : List ByteArray) (hb : Bound l) : EvE (fun _ => impl_WordsOk.f l) (· = wOk l) := by
  unfold impl_WordsOk.f impl_WordsOk_1.f
  rw [if_pos hb.2, wOk_any]
  refine EvE.ite (fun h => ?_) (fun h => EvE.now _ (by simp [h]))
  refine EvE.bind (EvE.now (P := (· = l.any badW)) _ rfl) ?_
  rintro _ rfl
  exact EvE.now _ (by simp [h])

theorem impl_HeavyMany_ok (l : List ByteArray) (hb : Bound l) (h : ByteArray) (hh : h.size ≤ 140737488351232) : EvE (fun _ => impl_HeavyMany.f l h) (· = mMany l h) := by
  unfold impl_HeavyMany.f mMany
  refine EvE.bind (impl_WordsOk_ok l hb) ?_
  rintro _ rfl
  refine EvE.ite (fun e => ?_) (fun e => EvE.now _ (by rw [if_neg (fun x => e x.1)]))
  refine EvE.pos hh ?_
  refine EvE.ite (fun e2 => EvE.now _ (by rw [if_pos ⟨e, e2⟩])) (fun e2 => EvE.now _ (by rw [if_neg (fun x => e2 x.2)]))

theorem FnExactHeavyMany (l : List ByteArray) (a : ByteArray) (hl : l.length * 16 ≤ 140737488351232) (hs : ∀ s ∈ l, s.size ≤ 140737488351232) (ha : a.size ≤ 140737488351232) : ∃ k, laws_FnExactHeavyMany.f k l a = some true := by
  refine EvE.rounds ?_
  unfold laws_FnExactHeavyMany.f
  have hb : Bound l := ⟨by omega, hs⟩
  refine EvE.ite (fun _ => EvE.now _ rfl) (fun _ => ?_)
  refine EvE.bind (laws_szStringS_ok l hl hs) ?_
  rintro r hr
  refine EvE.ite (fun _ => EvE.now _ rfl) (fun _ => ?_)
  refine EvE.bind (laws_toStringS_ok l (by omega)) ?_
  rintro _ rfl
  refine EvE.bind (spec_HeavyMany_ok _ hb _ ha) ?_
  rintro _ rfl
  refine EvE.bind (laws_toStringS_ok _ (by omega)) ?_
  rintro _ rfl
  refine EvE.bind (impl_HeavyMany_ok _ hb _ ha) ?_
  rintro _ rfl
  refine EvE.pos (by trivial) ?_
  refine EvE.bind (laws_toStringS_ok _ (by omega)) ?_
  rintro _ rfl
  refine EvE.bind (laws_eqStringS_ok _ (by omega)) ?_
  rintro _ rfl
  exact EvE.pos (by trivial) (EvE.now _ rfl)

end Go.Proofs.Ytdjenclegglmfaa.Pure
