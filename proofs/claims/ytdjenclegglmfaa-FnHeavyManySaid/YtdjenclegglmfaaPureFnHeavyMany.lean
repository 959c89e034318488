/- As many drawn words begin so as the reference counts; each goes on in one of two ways, or is whole; all begin with nothing. It has no conditions. -/
import Derived.Test.YtdjenclegglmfaaPFnHeavyManyx3
import Derived.Test.YtdjenclegglmfaaPb
namespace Go.Proofs.Ytdjenclegglmfaa.Pure
open Go.RowKit Go.Proofs.Ytdjenclegglmfaa.PFnHeavyMany Go.Proofs.YtdjenclegglmfaaW.PrintWords Go.Proofs.YtdjenclegglmfaaW.PrintLast Go.Proofs.Ytdjenclegglmfaa.Pb
set_option linter.unusedVariables false
set_option linter.unusedSimpArgs false

theorem byte_eq {c : UInt8} {n : Nat} (hn : n < 256) : ((c.toNat : Int) = (n : Int)) ↔ c = UInt8.ofNat n := by
  constructor
  · intro h
    apply UInt8.toNat_inj.1
    rw [UInt8.toNat_ofNat']
    omega
  · rintro rfl
    rw [UInt8.toNat_ofNat']
    omega
theorem byte_97 {c : UInt8} : ((c.toNat : Int) = 97) ↔ c = 97 := byte_eq (n := 97) (by omega)
theorem byte_98 {c : UInt8} : ((c.toNat : Int) = 98) ↔ c = 98 := byte_eq (n := 98) (by omega)
theorem bytes_drop {s : ByteArray} {i : Nat} (h : i < s.size) : s.data.toList.drop i = s.data.toList.getD i 0 :: s.data.toList.drop (i + 1) := by
  have h2 : i < s.data.toList.length := by simpa using h
  rw [List.getD_eq_getElem?_getD, List.getElem?_eq_getElem h2, Option.getD_some]
  exact List.drop_eq_getElem_cons h2
def Bound (l : List ByteArray) : Prop := l.length ≤ 1125899906842624 ∧ ∀ s ∈ l, s.size ≤ 140737488351232

def wOk (l : List ByteArray) : Bool := decide ((l.length : Int) ≤ 12) && l.all fun s => !badW s
theorem wOk_any (l : List ByteArray) : wOk l = (decide ((l.length : Int) ≤ 12) && !l.any badW) := by
  unfold wOk
  rw [List.not_any_eq_all_not]
theorem wOk_sub {l m : List ByteArray} (h : wOk l = true) (hl : m.length ≤ l.length) (hm : ∀ s ∈ m, s ∈ l) : wOk m = true := by
  unfold wOk at h ⊢
  rw [Bool.and_eq_true, List.all_eq_true] at h ⊢
  exact ⟨by have := of_decide_eq_true h.1; exact decide_eq_true (by omega), fun s hs => h.2 s (hm s hs)⟩
theorem wOk_bad {l : List ByteArray} {s : ByteArray} (hs : s ∈ l) (hb : badW s = true) : wOk l = false := by
  unfold wOk
  rw [Bool.and_eq_false_iff]
  refine .inr ?_
  rw [Bool.eq_false_iff]
  intro e
  have := List.all_eq_true.1 e s hs
  rw [hb] at this
  cases this

theorem byteArray_data_inj {a b : ByteArray} (h : a.data = b.data) : a = b := by
  cases a; cases b; simp at h; rw [h]
theorem isPrefixOf_take {p s : List UInt8} (h : p.length ≤ s.length) : (p.isPrefixOf s = true) ↔ s.take p.length = p := by
  rw [List.isPrefixOf_iff_prefix, List.prefix_iff_eq_take]
  exact ⟨fun h => h.symm, fun h => h.symm⟩
theorem extract_take (s : ByteArray) (n : Nat) : (s.extract 0 n).toList = s.data.toList.take n := by
  rw [ByteArray.toList_eq]
  simp [ByteArray.data_extract]
def mMany (l : List ByteArray) (h : ByteArray) : Int := if wOk l = true ∧ pfx h 3 = true then (cnt l h.data.toList : Nat) else -1
theorem cnt_drop_succ (l : List ByteArray) (p : Pre) (i : Nat) (hi : i < l.length) : cnt (l.drop i) p = (if p.isPrefixOf (rdOf ByteArray.empty l (i : Int)).data.toList = true then 1 else 0) + cnt (l.drop (i + 1)) p := by
  rw [drop_ro ByteArray.empty (xs := l) (i := i) hi]
  unfold cnt
  rw [List.countP_cons]
  omega
theorem cnt_le (l : List ByteArray) (p : Pre) : cnt l p ≤ l.length := List.countP_le_length
theorem wOk_len {l : List ByteArray} (h : wOk l = true) : l.length ≤ 12 := by
  unfold wOk at h
  rw [Bool.and_eq_true] at h
  have := of_decide_eq_true h.1
  omega
theorem wOk_mem {l : List ByteArray} (h : wOk l = true) {s : ByteArray} (hs : s ∈ l) : s.size = 3 ∧ s.data.toList.all ab = true := by
  unfold wOk at h
  rw [Bool.and_eq_true, List.all_eq_true] at h
  have := h.2 s hs
  simp only [badW, pfx, Bool.not_or, Bool.not_not, Bool.and_eq_true] at this
  simp at this
  exact ⟨by omega, by simpa using this.2.1⟩
theorem pfx_size {s : ByteArray} {m : Nat} (h : pfx s (m : Int) = true) : s.size ≤ m := by
  unfold pfx at h
  rw [Bool.and_eq_true] at h
  have := of_decide_eq_true h.2
  omega

theorem spec_l41Head_loop (s : ByteArray) (hs : s.size ≤ 140737488351232) (m : Nat) : ∀ i : Nat, i + m = s.size → EvE (fun k => spec_l41Head.l0 k s (i : Int)) (· = ((s.data.toList.drop i).all ab && decide ((s.size : Int) ≤ 3))) := by
  induction m with
  | zero =>
    intro i hi
    refine EvE.succ ?_
    simp only [spec_l41Head.l0]
    refine EvE.neg (by omega) (EvE.now _ ?_)
    rw [List.drop_of_length_le (by simp; omega)]
    rfl
  | succ m ih =>
    intro i hi
    have h := ih (i + 1) (by omega)
    refine EvE.succ ?_
    simp only [spec_l41Head.l0]
    refine EvE.pos (by omega) (EvE.pos (by omega) ?_)
    rw [bt_nat (by omega), w64 (x := (i : Int) + 1) (by omega) (by omega), bytes_drop (by omega)]
    generalize s.data.toList.getD i 0 = c
    refine EvE.ite (fun e => ?_) (fun e => EvE.ite (fun e2 => ?_) (fun e2 => EvE.now _ ?_))
    · have e := byte_97.1 e
      subst e
      exact h
    · have e2 := byte_98.1 e2
      subst e2
      exact h
    · have f1 : ¬ c = 97 := fun x => e (byte_97.2 x)
      have f2 : ¬ c = 98 := fun x => e2 (byte_98.2 x)
      simp [ab, f1, f2]
theorem spec_l41Head_ok (s : ByteArray) (hs : s.size ≤ 140737488351232) : EvE (fun k => spec_l41Head.f k s) (· = pfx s 3) := by
  exact spec_l41Head_loop s hs s.size 0 (by omega)

theorem spec_WordsOk_loop (l : List ByteArray) (hb : Bound l) (m : Nat) : ∀ i : Nat, i + m = l.length → EvE (fun k => spec_WordsOk.l0 k l (i : Int)) (· = (decide ((l.length : Int) ≤ 12) && (l.drop i).all fun s => !badW s)) := by
  have hl := hb.1
  induction m with
  | zero =>
    intro i hi
    refine EvE.succ ?_
    simp only [spec_WordsOk.l0]
    refine EvE.neg (by omega) (EvE.now _ ?_)
    rw [List.drop_of_length_le (by omega)]
    simp
  | succ m ih =>
    intro i hi
    have h := ih (i + 1) (by omega)
    have hs := hb.2 _ (mem_ro ByteArray.empty (xs := l) (i := i) (by omega))
    refine EvE.succ ?_
    simp only [spec_WordsOk.l0]
    refine EvE.pos (by omega) (EvE.pos (by omega) ?_)
    rw [w64 (x := (i : Int) + 1) (by omega) (by omega), drop_ro ByteArray.empty (xs := l) (i := i) (by omega)]
    generalize rdOf ByteArray.empty l (i : Int) = s at *
    refine EvE.ite (fun e => ?_) (fun e => EvE.now _ ?_)
    · have e : s.size = 3 := by omega
      refine EvE.bind (spec_l41Head_ok s hs) ?_
      rintro _ rfl
      refine EvE.ite (fun e2 => ?_) (fun e2 => EvE.now _ ?_)
      · have : badW s = false := by simp [badW, e, e2]
        simpa [this] using h
      · have : badW s = true := by simp [badW, e2]
        simp [this]
    · have e : ¬ s.size = 3 := by omega
      have : badW s = true := by simp [badW, e]
      simp [this]
theorem spec_WordsOk_ok (l : List ByteArray) (hb : Bound l) : EvE (fun k => spec_WordsOk.f k l) (· = wOk l) := by
  exact spec_WordsOk_loop l hb l.length 0 (by omega)

theorem spec_l41Many_loop (l : List ByteArray) (hl : wOk l = true) (h : ByteArray) (hh : h.size ≤ 3) (m : Nat) : ∀ (i n : Nat), i + m = l.length → n ≤ i → EvE (fun k => spec_l41Many.l0 k l h (n : Int) (i : Int)) (· = ((n + cnt (l.drop i) h.data.toList : Nat) : Int)) := by
  have h12 := wOk_len hl
  induction m with
  | zero =>
    intro i n hi hn
    refine EvE.succ ?_
    simp only [spec_l41Many.l0]
    refine EvE.neg (by omega) (EvE.now _ ?_)
    rw [List.drop_of_length_le (by omega)]
    rfl
  | succ m ih =>
    intro i n hi hn
    have hs := wOk_mem hl (mem_ro ByteArray.empty (xs := l) (i := i) (by omega))
    rw [cnt_drop_succ l _ i (by omega)]
    refine EvE.succ ?_
    simp only [spec_l41Many.l0]
    rw [w64 (x := (i : Int) + 1) (by omega) (by omega), w64 (x := (n : Int) + 1) (by omega) (by omega)]
    generalize rdOf ByteArray.empty l (i : Int) = s at *
    have e : (s.extract 0 ((h.size : Int) : Int).toNat).toList = h.toList ↔ h.data.toList.isPrefixOf s.data.toList = true := by
      rw [Int.toNat_natCast, extract_take, ByteArray.toList_eq, isPrefixOf_take (by simp; omega)]
      simp
    refine EvE.pos (by omega) (EvE.pos (by omega) (EvE.pos (by omega) (EvE.pos (by omega) ?_)))
    refine EvE.ite (fun e2 => ?_) (fun e2 => ?_)
    · rw [if_pos (e.1 e2)]
      have := ih (i + 1) (n + 1) (by omega) (by omega)
      rwa [show n + (1 + cnt (l.drop (i + 1)) h.data.toList) = n + 1 + cnt (l.drop (i + 1)) h.data.toList by omega]
    · rw [if_neg (fun x => e2 (e.2 x)), Nat.zero_add]
      exact ih (i + 1) n (by omega) (by omega)
theorem spec_l41Many_ok (l : List ByteArray) (hl : wOk l = true) (h : ByteArray) (hh : h.size ≤ 3) : EvE (fun k => spec_l41Many.f k l h) (· = ((cnt l h.data.toList : Nat) : Int)) := by
  have := spec_l41Many_loop l hl h hh l.length 0 0 (by omega) (by omega)
  rw [Nat.zero_add, List.drop_zero] at this
  exact this

theorem spec_HeavyMany_ok (l : List ByteArray) (hb : Bound l) (h : ByteArray) (hh : h.size ≤ 140737488351232) : EvE (fun k => spec_HeavyMany.f k l h) (· = mMany l h) := by
  unfold spec_HeavyMany.f mMany
  refine EvE.bind (spec_WordsOk_ok l hb) ?_
  rintro _ rfl
  refine EvE.ite (fun e => ?_) (fun e => EvE.now _ (by rw [if_neg (fun x => e x.1)]))
  refine EvE.bind (spec_l41Head_ok h hh) ?_
  rintro _ rfl
  refine EvE.ite (fun e2 => ?_) (fun e2 => EvE.now _ (by rw [if_neg (fun x => e2 x.2)]))
  rw [if_pos ⟨e, e2⟩]
  refine EvE.tail ?_
  exact spec_l41Many_ok l e h (pfx_size (m := 3) e2)

theorem impl_WordsOk_ok (l : List ByteArray) (hb : Bound l) : EvE (fun _ => impl_WordsOk.f l) (· = wOk l) := by
  unfold impl_WordsOk.f impl_WordsOk_1.f
  rw [if_pos hb.2, wOk_any]
  refine EvE.ite (fun h => ?_) (fun h => EvE.now _ (by simp [h]))
  refine EvE.bind (EvE.now (P := (· = l.any badW)) _ rfl) ?_
  rintro _ rfl
  exact EvE.now _ (by simp [h])

theorem impl_HeavyMany_ok (l : List ByteArray) (hb : Bound l) (h : ByteArray) (hh : h.size ≤ 140737488351232) : EvE (fun _ => impl_HeavyMany.f l h) (· = mMany l h) := by
  unfold impl_HeavyMany.f mMany
  refine EvE.bind (impl_WordsOk_ok l hb) ?_
  rintro _ rfl
  refine EvE.ite (fun e => ?_) (fun e => EvE.now _ (by rw [if_neg (fun x => e x.1)]))
  refine EvE.pos hh ?_
  refine EvE.ite (fun e2 => EvE.now _ (by rw [if_pos ⟨e, e2⟩])) (fun e2 => EvE.now _ (by rw [if_neg (fun x => e2 x.2)]))

theorem spec_l6Open_ok {l : List Int} (h : ∀ x ∈ l, (Lit.int .u8 x).wf = true) : EvE (fun _ => spec_l6Open.f l) (fun r => ∃ s, r = (s, 0) ∧ Coded s) := by
  have h := u8_range h
  unfold spec_l6Open.f
  refine EvE.ite (fun h1 => EvE.pos (by omega) (EvE.now _ ⟨_, rfl, fun x hx => h x (List.mem_of_mem_take hx), ?_⟩)) (fun h1 => EvE.now _ ⟨_, rfl, h, by omega⟩)
  rw [List.length_take]; omega

theorem spec_l6Rd_pick_ok {s : List Int} (hs : Coded s) (p n : Int) (h0 : 0 ≤ p) (h1 : p ≤ 1000000) (hn : 1 ≤ n) (hn' : n ≤ 1000000) :
    EvE (fun k => spec_l6Rd_pick.f k s p n) (fun r => ∃ v, r = (v, p + 1) ∧ 0 ≤ v ∧ v < n) := by
  unfold spec_l6Rd_pick.f
  rw [w64 (x := p + 1) (by omega) (by omega)]
  refine EvE.neg (by omega) (EvE.succ ?_)
  simp only [spec_l6Rd_pick.j0]
  have e : wrap64 (p + 1 - 1) = p := by rw [w64 (by omega) (by omega)]; omega
  rw [e]
  have rg := rd_range hs.1
  have hl := hs.2
  refine EvE.ite (fun _ => EvE.now _ ⟨0, rfl, by omega, by omega⟩) (fun hz => ?_)
  have hpos : 1 ≤ (s.length : Int) := by
    have : s.length ≠ 0 := by simpa using hz
    omega
  refine EvE.ite (fun hlt => EvE.pos h0 (EvE.neg (by omega) (EvE.now _ ?_))) (fun hge => ?_)
  · have := rg p
    rw [w64 (x := rd s p) (by omega) (by omega)]
    exact ⟨_, rfl, tmod_range (by omega) hn⟩
  · refine EvE.neg (by omega) ?_
    have t1 := tmod_range (a := p) (n := (s.length : Int)) h0 hpos
    have e1 : wrap64 (p * 7) = p * 7 := w64 (by omega) (by omega)
    have e2 : wrap64 (p * 7 + 3) = p * 7 + 3 := w64 (by omega) (by omega)
    rw [e1, e2]
    have t2 := tmod_range (a := p * 7 + 3) (n := (s.length : Int)) (by omega) hpos
    refine EvE.pos t1.1 (EvE.pos t1.2 (EvE.pos t2.1 (EvE.pos t2.2 (EvE.neg (by omega) (EvE.now _ ?_)))))
    have r1 := rg (Int.tmod p s.length)
    have r2 := rg (Int.tmod (p * 7 + 3) s.length)
    generalize rd s (Int.tmod p s.length) = A at *
    generalize rd s (Int.tmod (p * 7 + 3) s.length) = B at *
    have dq : 0 ≤ Int.tdiv p s.length ∧ Int.tdiv p s.length ≤ p := by
      rw [Int.tdiv_eq_ediv_of_nonneg h0]
      exact ⟨Int.ediv_nonneg h0 (by omega), Int.ediv_le_self _ h0⟩
    generalize Int.tdiv p s.length = Q at *
    rw [w64 (x := A) (by omega) (by omega), w64 (x := B) (by omega) (by omega), w64 (x := A * 131) (by omega) (by omega), w64 (x := B * 1117) (by omega) (by omega), w64 (x := p * 29) (by omega) (by omega), w64 (x := Q) (by omega) (by omega), w64 (x := Q * 53) (by omega) (by omega), w64 (x := A * 131 + B * 1117) (by omega) (by omega), w64 (x := A * 131 + B * 1117 + p * 29) (by omega) (by omega), w64 (x := A * 131 + B * 1117 + p * 29 + Q * 53) (by omega) (by omega)]
    have hX : 0 ≤ A * 131 + B * 1117 + p * 29 + Q * 53 ∧ A * 131 + B * 1117 + p * 29 + Q * 53 < 1000000000000 := by omega
    generalize A * 131 + B * 1117 + p * 29 + Q * 53 = X at *
    have e3 : wrap64 (Int.tdiv X 64) = X / 64 := by
      rw [Int.tdiv_eq_ediv_of_nonneg hX.1]
      exact w64 (by omega) (by omega)
    rw [e3]
    have hx := xor_nonneg (a := X) (b := X / 64) (by omega) (by omega) (by omega) (by omega)
    exact ⟨_, rfl, tmod_range hx.1 hn⟩

theorem spec_l6Rd_of_ok {s : List Int} (hs : Coded s) (p : Int) (h0 : 0 ≤ p) (h1 : p ≤ 1000000) (l : List ByteArray) (hl : 1 ≤ l.length) (hl' : l.length ≤ 100) :
    EvE (fun k => spec_l6Rd_of.f k s p l) (fun r => ∃ v, r = (v, p + 1) ∧ v ∈ l) := by
  unfold spec_l6Rd_of.f
  refine EvE.bind (spec_l6Rd_pick_ok hs p (l.length : Int) h0 h1 (by omega) (by omega)) ?_
  rintro _ ⟨v, rfl, hv, hv'⟩
  dsimp only
  refine EvE.pos hv (EvE.pos hv' (EvE.now _ ⟨_, rfl, ?_⟩))
  obtain ⟨n, rfl⟩ := Int.eq_ofNat_of_zero_le hv
  exact mem_ro _ (by omega)

theorem spec_l92Words_loop {s : List Int} (hs : Coded s) (n : Nat) : ∀ (out : List ByteArray) (p : Int), n ≤ 10 → out.length + n ≤ 10 → (∀ x ∈ out, x.size ≤ 4) → 0 ≤ p → p + 2 * (n : Int) ≤ 900000 →
    EvE (fun k => spec_l92Words.l0 k out (n : Int) s p) (fun r => ∃ o q, r = (o, q) ∧ o.length ≤ 11 ∧ (∀ x ∈ o, x.size ≤ 4) ∧ p ≤ q ∧ q ≤ p + (n : Int) + 5) := by
  induction n with
  | zero =>
    intro out p hn ho hx h0 h1
    refine EvE.succ ?_
    simp only [spec_l92Words.l0]
    refine EvE.neg (by omega) ?_
    refine EvE.bind (spec_l6Rd_pick_ok hs p 40 h0 (by omega) (by omega) (by omega)) ?_
    rintro _ ⟨a, rfl, _⟩
    dsimp only
    refine EvE.ite (fun _ => ?_) (fun _ => EvE.now _ ⟨_, _, rfl, by omega, hx, by omega, by omega⟩)
    refine EvE.bind (spec_l6Rd_of_ok hs _ (by omega) (by omega) _ (by simp) (by simp)) ?_
    rintro _ ⟨v, rfl, hv⟩
    dsimp only
    refine EvE.pos (by omega) (EvE.now _ ⟨_, _, rfl, by simp; omega, ?_, by omega, by omega⟩)
    intro x hx'
    rcases List.mem_append.1 hx' with h | h
    · exact hx x h
    · obtain rfl : x = v := by simpa using h
      simp only [List.mem_cons, List.not_mem_nil, or_false] at hv
      rcases hv with rfl | rfl | rfl <;> decide
  | succ n ih =>
    intro out p hn ho hx h0 h1
    refine EvE.succ ?_
    simp only [spec_l92Words.l0]
    refine EvE.pos (by omega) ?_
    refine EvE.bind (spec_l6Rd_of_ok hs _ (by omega) (by omega) _ (by simp) (by simp)) ?_
    rintro _ ⟨v, rfl, hv⟩
    dsimp only
    rw [show ((n + 1 : Nat) : Int) - 1 = (n : Int) by omega, w64 (x := (n : Int)) (by omega) (by omega)]
    refine EvE.pos (by omega) ?_
    refine (ih _ _ (by omega) (by simp; omega) ?_ (by omega) (by omega)).mono ?_
    · intro x hx'
      rcases List.mem_append.1 hx' with h | h
      · exact hx x h
      · obtain rfl : x = v := by simpa using h
        simp only [List.mem_cons, List.not_mem_nil, or_false] at hv
        rcases hv with rfl | rfl | rfl | rfl | rfl | rfl | rfl | rfl <;> decide
    · rintro _ ⟨o, q, rfl, h2, h3, h4, h5⟩
      exact ⟨o, q, rfl, h2, h3, by omega, by omega⟩
theorem spec_l92Words_ok {s : List Int} (hs : Coded s) (p : Int) (h0 : 0 ≤ p) (h1 : p ≤ 800000) :
    EvE (fun k => spec_l92Words.f k s p) (fun r => ∃ o q, r = (o, q) ∧ o.length ≤ 11 ∧ (∀ x ∈ o, x.size ≤ 4) ∧ p ≤ q ∧ q ≤ p + 20) := by
  unfold spec_l92Words.f
  refine EvE.bind (spec_l6Rd_pick_ok hs p 11 h0 (by omega) (by omega) (by omega)) ?_
  rintro _ ⟨n, rfl, hn, hn'⟩
  dsimp only
  obtain ⟨n, rfl⟩ := Int.eq_ofNat_of_zero_le hn
  refine (spec_l92Words_loop hs n [] _ (by omega) (by simp; omega) (by simp) (by omega) (by omega)).mono ?_
  rintro _ ⟨o, q, rfl, h2, h3, h4, h5⟩
  exact ⟨o, q, rfl, h2, h3, by omega, by omega⟩

theorem spec_DrawHeavyMany_ok {l : List Int} (h : ∀ x ∈ l, (Lit.int .u8 x).wf = true) : EvE (fun k => spec_DrawHeavyMany.f k l) (fun r => ∃ o v, r = (o, v) ∧ (o.length ≤ 11 ∧ ∀ x ∈ o, x.size ≤ 4) ∧ v.size ≤ 4) := by
  unfold spec_DrawHeavyMany.f
  refine EvE.bind (spec_l6Open_ok h) ?_
  rintro _ ⟨s, rfl, hs⟩
  dsimp only
  refine EvE.bind (spec_l92Words_ok hs 0 (by omega) (by omega)) ?_
  rintro _ ⟨o, q, rfl, h2, h3, h4, h5⟩
  dsimp only
  refine EvE.bind (spec_l6Rd_of_ok hs _ (by omega) (by omega) _ (by simp) (by simp)) ?_
  rintro _ ⟨v, rfl, hv⟩
  refine EvE.now _ ⟨o, v, rfl, ⟨h2, h3⟩, ?_⟩
  simp only [List.mem_cons, List.not_mem_nil, or_false] at hv
  rcases hv with rfl | rfl | rfl | rfl | rfl | rfl | rfl | rfl | rfl <;> decide

theorem cnt_nil (l : List ByteArray) : cnt l [] = l.length := by
  unfold cnt
  rw [List.countP_eq_length]
  intro s _
  rfl
theorem cnt_two {l : List ByteArray} (hl : wOk l = true) {p : Pre} (hp : p.length < 3) : cnt l (p ++ [97]) + cnt l (p ++ [98]) = cnt l p := by
  unfold wOk at hl
  rw [Bool.and_eq_true, List.all_eq_true] at hl
  obtain ⟨-, hl⟩ := hl
  induction l with
  | nil => rfl
  | cons s ss ih =>
    have ih := ih (fun x hx => hl x (List.mem_cons_of_mem _ hx))
    have hs := hl s (List.mem_cons_self ..)
    simp only [badW, pfx, Bool.not_or, Bool.not_not, Bool.and_eq_true] at hs
    have h3 : s.data.toList.length = 3 := by have := hs.1; simp at this; simp; omega
    have ha : s.data.toList.all ab = true := hs.2.1
    unfold cnt at ih ⊢
    simp only [List.countP_cons]
    generalize s.data.toList = t at *
    have key : (if (p ++ [97]).isPrefixOf t = true then 1 else 0) + (if (p ++ [98]).isPrefixOf t = true then 1 else 0) = (if p.isPrefixOf t = true then 1 else 0) := by
      simp only [List.isPrefixOf_iff_prefix]
      by_cases h : p <+: t
      · obtain ⟨q, rfl⟩ := h
        cases q with
        | nil => simp at h3; omega
        | cons x q =>
          have hx : ab x = true := List.all_eq_true.1 ha x (by simp)
          have e : ∀ y : UInt8, (p ++ [y] <+: p ++ x :: q) ↔ y = x := fun y => by
            rw [List.prefix_append_right_inj, List.cons_prefix_cons]
            simp
          simp only [e, List.prefix_append, if_true]
          have hx : x = 97 ∨ x = 98 := by simpa [ab] using hx
          rcases hx with rfl | rfl
          · rw [if_pos rfl, if_neg (by decide)]
          · rw [if_neg (by decide), if_pos rfl]
      · have e : ∀ y : UInt8, ¬ (p ++ [y] <+: t) := fun y hy => h ((List.prefix_append _ _).trans hy)
        rw [if_neg (e _), if_neg (e _), if_neg h]
    omega
theorem HeavyMany_loop (l : List ByteArray) (hl : wOk l = true) (h : ByteArray) (hp : pfx h 3 = true) (m : Nat) : ∀ (i n : Nat), i + m = l.length → n ≤ i → n + cnt (l.drop i) h.data.toList = cnt l h.data.toList → EvE (fun k => laws_FnHeavyMany.l0 k l h ((cnt l h.data.toList : Nat) : Int) (n : Int) (i : Int)) (· = true) := by
  have h12 := wOk_len hl
  have hh := pfx_size (m := 3) hp
  have hb : Bound l := ⟨by omega, fun s hs => by have := (wOk_mem hl hs).1; omega⟩
  have hpa : h.data.toList.all ab = true := by unfold pfx at hp; rw [Bool.and_eq_true] at hp; exact hp.1
  induction m with
  | zero =>
    intro i n hi hn hc
    rw [List.drop_of_length_le (by omega)] at hc
    have hc : n = cnt l h.data.toList := hc
    have hnil : EvE (fun _ => impl_HeavyMany.f l (⟨#[]⟩ : ByteArray)) (· = (l.length : Int)) := by
      refine (impl_HeavyMany_ok l hb _ (by decide)).mono ?_
      rintro _ rfl
      unfold mMany
      rw [if_pos ⟨hl, by decide⟩]
      show ((cnt l [] : Nat) : Int) = _
      rw [cnt_nil]
    have hcl := cnt_le l h.data.toList
    refine EvE.succ ?_
    simp only [laws_FnHeavyMany.l0]
    refine EvE.neg (by omega) (EvE.ite (fun e => ?_) (fun e => ?_))
    · have hx : ∀ x : UInt8, ab x = true → EvE (fun _ => impl_HeavyMany.f l (h ++ (⟨#[x]⟩ : ByteArray))) (· = ((cnt l (h.data.toList ++ [x]) : Nat) : Int)) := fun x hab => by
        refine (impl_HeavyMany_ok l hb _ (by rw [ByteArray.size_append]; show h.size + 1 ≤ _; omega)).mono ?_
        rintro _ rfl
        unfold mMany
        rw [if_pos ⟨hl, by
          unfold pfx
          rw [ByteArray.data_append, Array.toList_append, List.all_append, hpa, ByteArray.size_append]
          show (true && List.all [x] ab && decide (((h.size + 1 : Nat) : Int) ≤ 3)) = true
          rw [decide_eq_true (by omega)]
          simp [hab]⟩, ByteArray.data_append, Array.toList_append]
      have h2 := cnt_two hl (p := h.data.toList) (by simp; omega)
      refine EvE.pos (by omega) ?_
      refine EvE.bind (hx 97 rfl) ?_
      rintro _ rfl
      refine EvE.bind (hx 98 rfl) ?_
      rintro _ rfl
      refine EvE.pos (by omega) (EvE.pos (by rw [w64 (by omega) (by omega)]; omega) ?_)
      refine EvE.bind hnil ?_
      rintro _ rfl
      exact EvE.now _ (by simp)
    · refine EvE.pos (by omega) (EvE.pos (by trivial) ?_)
      refine EvE.bind hnil ?_
      rintro _ rfl
      exact EvE.now _ (by simp)
  | succ m ih =>
    intro i n hi hn hc
    have hs := wOk_mem hl (mem_ro ByteArray.empty (xs := l) (i := i) (by omega))
    rw [cnt_drop_succ l _ i (by omega)] at hc
    refine EvE.succ ?_
    simp only [laws_FnHeavyMany.l0]
    rw [w64 (x := (i : Int) + 1) (by omega) (by omega), w64 (x := (n : Int) + 1) (by omega) (by omega)]
    generalize rdOf ByteArray.empty l (i : Int) = s at *
    have e : (s.extract 0 ((h.size : Int) : Int).toNat).toList = h.toList ↔ h.data.toList.isPrefixOf s.data.toList = true := by
      rw [Int.toNat_natCast, extract_take, ByteArray.toList_eq, isPrefixOf_take (by simp; omega)]
      simp
    refine EvE.pos (by omega) (EvE.pos (by omega) (EvE.pos (by omega) (EvE.pos (by omega) ?_)))
    refine EvE.ite (fun e2 => ?_) (fun e2 => ?_)
    · rw [if_pos (e.1 e2)] at hc
      exact ih (i + 1) (n + 1) (by omega) (by omega) (by omega)
    · rw [if_neg (fun x => e2 (e.2 x))] at hc
      exact ih (i + 1) n (by omega) (by omega) (by omega)
theorem FnHeavyMany : laws_FnHeavyMany.Pure := by
  intro l _ _ hw
  refine EvE.rounds ?_
  unfold laws_FnHeavyMany.f
  refine EvE.ite (fun _ => EvE.now _ rfl) (fun _ => ?_)
  refine EvE.bind (spec_DrawHeavyMany_ok hw) ?_
  rintro _ ⟨o, v, rfl, ⟨ho, hx⟩, hv⟩
  have hb : Bound o := ⟨by omega, fun s hs => by have := hx s hs; omega⟩
  dsimp only
  refine EvE.bind (impl_HeavyMany_ok o hb v (by omega)) ?_
  rintro _ rfl
  refine EvE.bind (spec_HeavyMany_ok o hb v (by omega)) ?_
  rintro _ rfl
  refine EvE.pos (by trivial) (EvE.succ ?_)
  simp only [laws_FnHeavyMany.j0]
  refine EvE.ite (fun _ => ?_) (fun h => ?_)
  · refine EvE.bind (spec_HeavyMany_ok o hb v (by omega)) ?_
    rintro _ rfl
    exact EvE.now _ (by simp)
  · have h : ¬ mMany o v < 0 := by simpa using h
    unfold mMany at h ⊢
    by_cases hc : wOk o = true ∧ pfx v 3 = true
    · rw [if_pos hc]
      exact HeavyMany_loop o hc.1 v hc.2 o.length 0 0 (by omega) (by omega) (by simp)
    · rw [if_neg hc] at h
      exact absurd (by decide) h

end Go.Proofs.Ytdjenclegglmfaa.Pure
