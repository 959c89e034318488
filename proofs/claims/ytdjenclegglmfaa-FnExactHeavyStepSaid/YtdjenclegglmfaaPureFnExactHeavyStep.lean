/- HeavyStep tells what the reference tells, for any texts and any number, leaves its arguments alone, and gives new memory each time. It has no conditions. -/
import Derived.Test.YtdjenclegglmfaaPFnExactHeavyStepx5
import Derived.Test.YtdjenclegglmfaaPb
namespace Go.Proofs.Ytdjenclegglmfaa.Pure
open Go.RowKit Go.Proofs.Ytdjenclegglmfaa.PFnExactHeavyStep Go.Proofs.YtdjenclegglmfaaW.PrintWords Go.Proofs.YtdjenclegglmfaaW.PrintLast Go.Proofs.Ytdjenclegglmfaa.Pb
set_option linter.unusedVariables false
set_option linter.unusedSimpArgs false

theorem byte_eq {c : UInt8} {n : Nat} (hn : n < 256) : ((c.toNat : Int) = (n : Int)) ↔ c = UInt8.ofNat n := by
  constructor
  · intro h
    apply UInt8.toNat_inj.1
    rw [UInt8.toNat_ofNat']
    omega
  · rintro rfl
    rw [UInt8.toNat_ofNat']
    omega
theorem byte_97 {c : UInt8} : ((c.toNat : Int) = 97) ↔ c = 97 := byte_eq (n := 97) (by omega)
theorem byte_98 {c : UInt8} : ((c.toNat : Int) = 98) ↔ c = 98 := byte_eq (n := 98) (by omega)
theorem bytes_drop {s : ByteArray} {i : Nat} (h : i < s.size) : s.data.toList.drop i = s.data.toList.getD i 0 :: s.data.toList.drop (i + 1) := by
  have h2 : i < s.data.toList.length := by simpa using h
  rw [List.getD_eq_getElem?_getD, List.getElem?_eq_getElem h2, Option.getD_some]
  exact List.drop_eq_getElem_cons h2
def Bound (l : List ByteArray) : Prop := l.length ≤ 1125899906842624 ∧ ∀ s ∈ l, s.size ≤ 140737488351232

def wOk (l : List ByteArray) : Bool := decide ((l.length : Int) ≤ 12) && l.all fun s => !badW s
theorem wOk_any (l : List ByteArray) : wOk l = (decide ((l.length : Int) ≤ 12) && !l.any badW) := by
  unfold wOk
  rw [List.not_any_eq_all_not]
theorem wOk_sub {l m : List ByteArray} (h : wOk l = true) (hl : m.length ≤ l.length) (hm : ∀ s ∈ m, s ∈ l) : wOk m = true := by
  unfold wOk at h ⊢
  rw [Bool.and_eq_true, List.all_eq_true] at h ⊢
  exact ⟨by have := of_decide_eq_true h.1; exact decide_eq_true (by omega), fun s hs => h.2 s (hm s hs)⟩
theorem wOk_bad {l : List ByteArray} {s : ByteArray} (hs : s ∈ l) (hb : badW s = true) : wOk l = false := by
  unfold wOk
  rw [Bool.and_eq_false_iff]
  refine .inr ?_
  rw [Bool.eq_false_iff]
  intro e
  have := List.all_eq_true.1 e s hs
  rw [hb] at this
  cases this

def hOk (l : List ByteArray) : Bool := decide ((l.length : Int) ≤ 12) && l.all fun s => !badH s
theorem hOk_any (l : List ByteArray) : hOk l = (decide ((l.length : Int) ≤ 12) && !l.any badH) := by
  unfold hOk
  rw [List.not_any_eq_all_not]
def nextOf : List ByteArray → List ByteArray
  | [] => []
  | s :: ss => (s ++ (⟨#[97]⟩ : ByteArray)) :: (s ++ (⟨#[98]⟩ : ByteArray)) :: nextOf ss
theorem nextOf_length (l : List ByteArray) : (nextOf l).length = 2 * l.length := by
  induction l with
  | nil => rfl
  | cons s ss ih => simp [nextOf, ih]; omega
def hNext (l : List ByteArray) : List ByteArray := if hOk l = true then nextOf l else []
theorem hNext_length (l : List ByteArray) : (hNext l).length ≤ 24 := by
  unfold hNext
  split
  · have h : hOk l = true := ‹_›
    unfold hOk at h
    rw [Bool.and_eq_true] at h
    have := of_decide_eq_true h.1
    rw [nextOf_length]
    omega
  · simp

theorem byteArray_data_inj {a b : ByteArray} (h : a.data = b.data) : a = b := by
  cases a; cases b; simp at h; rw [h]
instance memBA (a : ByteArray) (l : List ByteArray) : Decidable (a ∈ l) := decidable_of_iff (l.any (fun s => s.data.toList == a.data.toList) = true) (by
  rw [List.any_eq_true]
  constructor
  · rintro ⟨x, hx, he⟩
    have : x = a := byteArray_data_inj (Array.toList_inj.1 (eq_of_beq he))
    rwa [← this]
  · intro h
    exact ⟨a, h, by simp⟩)
theorem isPrefixOf_take {p s : List UInt8} (h : p.length ≤ s.length) : (p.isPrefixOf s = true) ↔ s.take p.length = p := by
  rw [List.isPrefixOf_iff_prefix, List.prefix_iff_eq_take]
  exact ⟨fun h => h.symm, fun h => h.symm⟩
theorem extract_take (s : ByteArray) (n : Nat) : (s.extract 0 n).toList = s.data.toList.take n := by
  rw [ByteArray.toList_eq]
  simp [ByteArray.data_extract]
def mMany (l : List ByteArray) (h : ByteArray) : Int := if wOk l = true ∧ pfx h 3 = true then (cnt l h.data.toList : Nat) else -1
theorem cnt_drop_succ (l : List ByteArray) (p : Pre) (i : Nat) (hi : i < l.length) : cnt (l.drop i) p = (if p.isPrefixOf (rdOf ByteArray.empty l (i : Int)).data.toList = true then 1 else 0) + cnt (l.drop (i + 1)) p := by
  rw [drop_ro ByteArray.empty (xs := l) (i := i) hi]
  unfold cnt
  rw [List.countP_cons]
  omega
theorem cnt_le (l : List ByteArray) (p : Pre) : cnt l p ≤ l.length := List.countP_le_length
theorem wOk_len {l : List ByteArray} (h : wOk l = true) : l.length ≤ 12 := by
  unfold wOk at h
  rw [Bool.and_eq_true] at h
  have := of_decide_eq_true h.1
  omega
theorem wOk_mem {l : List ByteArray} (h : wOk l = true) {s : ByteArray} (hs : s ∈ l) : s.size = 3 ∧ s.data.toList.all ab = true := by
  unfold wOk at h
  rw [Bool.and_eq_true, List.all_eq_true] at h
  have := h.2 s hs
  simp only [badW, pfx, Bool.not_or, Bool.not_not, Bool.and_eq_true] at this
  simp at this
  exact ⟨by omega, by simpa using this.2.1⟩
theorem pfx_size {s : ByteArray} {m : Nat} (h : pfx s (m : Int) = true) : s.size ≤ m := by
  unfold pfx at h
  rw [Bool.and_eq_true] at h
  have := of_decide_eq_true h.2
  omega
theorem cnt_nil (l : List ByteArray) : cnt l [] = l.length := by
  unfold cnt
  rw [List.countP_eq_length]
  intro s _
  rfl
theorem cnt_two {l : List ByteArray} (hl : wOk l = true) {p : Pre} (hp : p.length < 3) : cnt l (p ++ [97]) + cnt l (p ++ [98]) = cnt l p := by
  unfold wOk at hl
  rw [Bool.and_eq_true, List.all_eq_true] at hl
  obtain ⟨-, hl⟩ := hl
  induction l with
  | nil => rfl
  | cons s ss ih =>
    have ih := ih (fun x hx => hl x (List.mem_cons_of_mem _ hx))
    have hs := hl s (List.mem_cons_self ..)
    simp only [badW, pfx, Bool.not_or, Bool.not_not, Bool.and_eq_true] at hs
    have h3 : s.data.toList.length = 3 := by have := hs.1; simp at this; simp; omega
    have ha : s.data.toList.all ab = true := hs.2.1
    unfold cnt at ih ⊢
    simp only [List.countP_cons]
    generalize s.data.toList = t at *
    have key : (if (p ++ [97]).isPrefixOf t = true then 1 else 0) + (if (p ++ [98]).isPrefixOf t = true then 1 else 0) = (if p.isPrefixOf t = true then 1 else 0) := by
      simp only [List.isPrefixOf_iff_prefix]
      by_cases h : p <+: t
      · obtain ⟨q, rfl⟩ := h
        cases q with
        | nil => simp at h3; omega
        | cons x q =>
          have hx : ab x = true := List.all_eq_true.1 ha x (by simp)
          have e : ∀ y : UInt8, (p ++ [y] <+: p ++ x :: q) ↔ y = x := fun y => by
            rw [List.prefix_append_right_inj, List.cons_prefix_cons]
            simp
          simp only [e, List.prefix_append, if_true]
          have hx : x = 97 ∨ x = 98 := by simpa [ab] using hx
          rcases hx with rfl | rfl
          · rw [if_pos rfl, if_neg (by decide)]
          · rw [if_neg (by decide), if_pos rfl]
      · have e : ∀ y : UInt8, ¬ (p ++ [y] <+: t) := fun y hy => h ((List.prefix_append _ _).trans hy)
        rw [if_neg (e _), if_neg (e _), if_neg h]
    omega

theorem pfx_all {s : ByteArray} {m : Int} (h : pfx s m = true) : s.data.toList.all ab = true := by
  unfold pfx at h
  rw [Bool.and_eq_true] at h
  exact h.1
def wNext (l : List ByteArray) (h : List ByteArray) (n : Int) : List ByteArray := if wOk l = true then (hNext h).filter (kept l n) else []
theorem hNext_mem {h : List ByteArray} {s : ByteArray} (hs : s ∈ hNext h) : s.size ≤ 3 ∧ s.data.toList.all ab = true := by
  unfold hNext at hs
  split at hs
  · rename_i hok
    unfold hOk at hok
    rw [Bool.and_eq_true, List.all_eq_true] at hok
    obtain ⟨-, hok⟩ := hok
    induction h with
    | nil => cases hs
    | cons x xs ih =>
      have hx := hok x (List.mem_cons_self ..)
      have hx : pfx x 2 = true := by simpa [badH] using hx
      have h2 := pfx_size (m := 2) hx
      have h3 := pfx_all hx
      rw [nextOf] at hs
      rcases List.mem_cons.1 hs with rfl | hs
      · refine ⟨by rw [ByteArray.size_append]; show x.size + 1 ≤ 3; omega, ?_⟩
        rw [ByteArray.data_append, Array.toList_append, List.all_append, h3]
        rfl
      · rcases List.mem_cons.1 hs with rfl | hs
        · refine ⟨by rw [ByteArray.size_append]; show x.size + 1 ≤ 3; omega, ?_⟩
          rw [ByteArray.data_append, Array.toList_append, List.all_append, h3]
          rfl
        · exact ih hs (fun y hy => hok y (List.mem_cons_of_mem _ hy))
  · cases hs
theorem wNext_bound (l h : List ByteArray) (n : Int) : (wNext l h n).length ≤ 24 ∧ ∀ s ∈ wNext l h n, s.size ≤ 3 := by
  unfold wNext
  split
  · exact ⟨Nat.le_trans (List.length_filter_le _ _) (hNext_length h), fun s hs => (hNext_mem ((List.mem_filter.1 hs).1)).1⟩
  · exact ⟨by simp, fun s hs => by cases hs⟩
theorem wNext_Bound (l h : List ByteArray) (n : Int) : Bound (wNext l h n) := by
  obtain ⟨h1, h2⟩ := wNext_bound l h n
  exact ⟨by omega, fun s hs => by have := h2 s hs; omega⟩
def nul : ByteArray := ⟨#[]⟩
def wAll (l : List ByteArray) (n : Int) : List ByteArray := if wOk l = true ∧ 1 ≤ n then wNext l (wNext l (wNext l [nul] n) n) n else []
theorem nul_Bound : Bound [nul] := ⟨by simp, fun s hs => by
  obtain rfl : s = nul := by simpa using hs
  decide⟩
theorem wAll_len (l : List ByteArray) (n : Int) : (wAll l n).length ≤ 24 := by
  unfold wAll
  split
  · exact (wNext_bound _ _ _).1
  · simp
theorem wAll_Bound (l : List ByteArray) (n : Int) : Bound (wAll l n) := by
  unfold wAll
  split
  · exact wNext_Bound _ _ _
  · exact ⟨by simp, fun s hs => by cases hs⟩
theorem kept_iff (l : List ByteArray) (n : Int) (s : ByteArray) : kept l n s = true ↔ n ≤ (cnt l s.data.toList : Nat) := by
  simp [kept]

theorem laws_szStringS_loop (l : List ByteArray) (hl : l.length ≤ 1125899906842624) (hb : ∀ s ∈ l, s.size ≤ 140737488351232) (m : Nat) : ∀ (i : Nat) (x : Int), i + m = l.length → x ≤ 1048576 → 0 ≤ x → EvE (fun k => laws_szStringS.l0 k l x (i : Int)) (fun r => r < 0 ∨ ∀ s ∈ l.drop i, s.size ≤ 1048576) := by
  induction m with
  | zero =>
    intro i x hi hx hx0
    refine EvE.succ ?_
    simp only [laws_szStringS.l0]
    refine EvE.neg (by omega) (EvE.now _ (.inr ?_))
    rw [List.drop_of_length_le (by omega)]
    intro s hs
    cases hs
  | succ m ih =>
    intro i x hi hx hx0
    have hs := hb _ (mem_ro ByteArray.empty (xs := l) (i := i) (by omega))
    refine EvE.succ ?_
    simp only [laws_szStringS.l0]
    refine EvE.pos (by omega) (EvE.pos (by omega) ?_)
    rw [drop_ro ByteArray.empty (xs := l) (i := i) (by omega)]
    generalize rdOf ByteArray.empty l (i : Int) = s at *
    rw [w64 (x := x - (s.size : Int)) (by omega) (by omega), w64 (x := (i : Int) + 1) (by omega) (by omega)]
    refine EvE.ite (fun e => EvE.now _ (.inl (by decide))) (fun e => ?_)
    refine (ih (i + 1) _ (by omega) (by omega) (by omega)).mono ?_
    rintro r (h | h)
    · exact .inl h
    · refine .inr fun t ht => ?_
      rcases List.mem_cons.1 ht with rfl | ht
      · omega
      · exact h t ht
theorem laws_szStringS_ok (l : List ByteArray) (hl : l.length * 16 ≤ 140737488351232) (hb : ∀ s ∈ l, s.size ≤ 140737488351232) : EvE (fun k => laws_szStringS.f k l 1048576) (fun r => r < 0 ∨ (l.length ≤ 1048576 ∧ ∀ s ∈ l, s.size ≤ 1048576)) := by
  unfold laws_szStringS.f
  rw [w64 (x := 1048576 - (l.length : Int)) (by omega) (by omega)]
  refine EvE.ite (fun e => EvE.now _ (.inl (by decide))) (fun e => ?_)
  refine (laws_szStringS_loop l (by omega) hb l.length 0 _ (by omega) (by omega) (by omega)).mono ?_
  rintro r (h | h)
  · exact .inl h
  · exact .inr ⟨by omega, by simpa using h⟩

theorem laws_toStringS_loop (l : List ByteArray) (hb : l.length ≤ 1125899906842624) (m : Nat) : ∀ (i : Nat) (x : List ByteArray), i + m = l.length → x.length = l.length → x.take i = l.take i → EvE (fun k => laws_toStringS.l0 k l x (i : Int)) (· = l) := by
  induction m with
  | zero =>
    intro i x hi hx ht
    refine EvE.succ ?_
    simp only [laws_toStringS.l0]
    refine EvE.neg (by omega) (EvE.now _ ?_)
    rwa [List.take_of_length_le (by omega), List.take_of_length_le (by omega)] at ht
  | succ m ih =>
    intro i x hi hx ht
    refine EvE.succ ?_
    simp only [laws_toStringS.l0]
    refine EvE.pos (by omega) (EvE.pos (by omega) (EvE.pos (by omega) ?_))
    rw [w64 (x := (i : Int) + 1) (by omega) (by omega), Int.toNat_natCast]
    refine ih (i + 1) _ (by omega) (by simpa using hx) ?_
    rw [take_set_succ (by omega), take_ro ByteArray.empty (by omega), ht]
theorem laws_toStringS_ok (l : List ByteArray) (hb : l.length ≤ 17592186044416) : EvE (fun k => laws_toStringS.f k l) (· = l) := by
  unfold laws_toStringS.f
  refine EvE.pos (by omega) (EvE.pos (by omega) ?_)
  exact laws_toStringS_loop l (by omega) l.length 0 _ (by omega) (by simp) (by simp)

theorem laws_eqStringS_loop (l : List ByteArray) (hb : l.length ≤ 1125899906842624) (m : Nat) : ∀ i : Nat, i + m = l.length → EvE (fun k => laws_eqStringS.l0 k l l (i : Int)) (· = true) := by
  induction m with
  | zero =>
    intro i hi
    refine EvE.succ ?_
    simp only [laws_eqStringS.l0]
    exact EvE.neg (by omega) (EvE.now _ rfl)
  | succ m ih =>
    intro i hi
    refine EvE.succ ?_
    simp only [laws_eqStringS.l0]
    refine EvE.pos (by omega) (EvE.pos (by omega) (EvE.pos (by omega) (EvE.pos (by trivial) ?_)))
    rw [w64 (x := (i : Int) + 1) (by omega) (by omega)]
    exact ih (i + 1) (by omega)
theorem laws_eqStringS_ok (l : List ByteArray) (hb : l.length ≤ 1125899906842624) : EvE (fun k => laws_eqStringS.f k l l) (· = true) := by
  unfold laws_eqStringS.f
  exact EvE.pos (by trivial) (laws_eqStringS_loop l hb l.length 0 (by omega))

theorem laws_markText_loop (b : Nat) : ∀ (n : Int) (x : ByteArray), n < 10 ^ b → x.size + b ≤ 1000 → ∃ r, EvE (fun k => laws_markText.l0 k n x) (· = r) := by
  induction b with
  | zero =>
    intro n x hn hx
    refine ⟨(⟨#[109]⟩ : ByteArray) ++ x, EvE.succ ?_⟩
    simp only [laws_markText.l0]
    exact EvE.neg (by omega) (EvE.pos (by omega) (EvE.now _ rfl))
  | succ b ih =>
    intro n x hn hx
    by_cases h0 : n > 0
    · have e1 : Int.tdiv n 10 = n / 10 := Int.tdiv_eq_ediv_of_nonneg (by omega)
      have hs : ∀ a : Int, (strOfNums [a]).size = 1 := fun a => rfl
      have hp : (10 : Int) ^ (b + 1) = 10 ^ b * 10 := Int.pow_succ ..
      have hw := w64_range (Int.tdiv n 10)
      have hle : wrap64 (Int.tdiv n 10) < 10 ^ b := by
        have hpos : (0 : Int) < 10 ^ b := Int.pow_pos (by omega)
        rw [e1]
        by_cases hq : n / 10 < 9223372036854775808
        · rw [w64 (by omega) hq]
          omega
        · by_cases hz : wrap64 (n / 10) ≤ 0
          · omega
          · have : wrap64 (n / 10) ≤ n / 10 := by unfold wrap64; omega
            omega
      obtain ⟨r, hr⟩ := ih (wrap64 (Int.tdiv n 10)) (strOfNums [(wrap64 (48 + (Int.tmod n 10))) % 256] ++ x) hle (by rw [ByteArray.size_append, hs]; omega)
      refine ⟨r, EvE.succ ?_⟩
      simp only [laws_markText.l0]
      refine EvE.pos h0 ?_
      refine EvE.bind (EvE.now (P := (· = [(wrap64 (48 + (Int.tmod n 10))) % 256])) _ rfl) ?_
      rintro _ rfl
      exact EvE.pos (by rw [hs]; omega) hr
    · refine ⟨(⟨#[109]⟩ : ByteArray) ++ x, EvE.succ ?_⟩
      simp only [laws_markText.l0]
      exact EvE.neg h0 (EvE.pos (by omega) (EvE.now _ rfl))
theorem laws_markText_ex (n : Nat) : ∃ r, n < 1000000000 → EvE (fun k => laws_markText.f k ((n : Int) + 1)) (· = r) := by
  by_cases hn : n < 1000000000
  · have h : ((n : Int) + 1) < 10 ^ 10 := by
      have : (10 : Int) ^ 10 = 10000000000 := by decide
      omega
    obtain ⟨r, hr⟩ := laws_markText_loop 10 ((n : Int) + 1) (⟨#[]⟩ : ByteArray) h (by simp [ByteArray.size])
    refine ⟨r, fun _ => ?_⟩
    unfold laws_markText.f
    exact EvE.neg (by omega) hr
  · exact ⟨ByteArray.empty, fun h => absurd h hn⟩
noncomputable def mtx (n : Nat) : ByteArray := (laws_markText_ex n).choose
theorem laws_markText_ok (n : Nat) (h : n < 1000000000) : EvE (fun k => laws_markText.f k ((n : Int) + 1)) (· = mtx n) := (laws_markText_ex n).choose_spec h
noncomputable def marksS (n : Nat) : List ByteArray := (List.range n).map mtx
theorem marksS_length (n : Nat) : (marksS n).length = n := by simp [marksS]
theorem marksS_succ (n : Nat) : marksS (n + 1) = marksS n ++ [mtx n] := by simp [marksS, List.range_succ]
theorem marksS_rd {n i : Nat} (h : i < n) : rdOf ByteArray.empty (marksS n) (i : Int) = mtx i := by
  rw [ro_nat (by rw [marksS_length]; exact h)]
  simp [marksS]

theorem laws_markStringS_loop (n : Nat) (hb : n ≤ 10000000) (m : Nat) : ∀ (i : Nat) (x : List ByteArray), i + m = n → x.length = n → x.take i = marksS i → EvE (fun k => laws_markStringS.l0 k x ((i : Int) + 1) (i : Int)) (· = ((n : Int) + 1, marksS n)) := by
  induction m with
  | zero =>
    intro i x hi hx ht
    refine EvE.succ ?_
    simp only [laws_markStringS.l0]
    refine EvE.neg (by omega) (EvE.now _ ?_)
    rw [List.take_of_length_le (by omega)] at ht
    rw [ht, show i = n by omega]
  | succ m ih =>
    intro i x hi hx ht
    refine EvE.succ ?_
    simp only [laws_markStringS.l0]
    refine EvE.pos (by omega) ?_
    refine EvE.bind (laws_markText_ok i (by omega)) ?_
    rintro _ rfl
    refine EvE.pos (by omega) ?_
    rw [w64 (x := (i : Int) + 1) (by omega) (by omega), w64 (x := (i : Int) + 1 + 1) (by omega) (by omega), Int.toNat_natCast]
    refine ih (i + 1) _ (by omega) (by simpa using hx) ?_
    rw [take_set_succ (by omega), ht, marksS_succ]
theorem laws_markStringS_ok (l : List ByteArray) (hb : l.length ≤ 10000000) : EvE (fun k => laws_markStringS.f k l 1) (· = ((l.length : Int) + 1, marksS l.length)) :=
  laws_markStringS_loop l.length hb l.length 0 l (by omega) rfl (by simp [marksS])

theorem laws_heldStringS_loop (n : Nat) (hb : n ≤ 10000000) (m : Nat) : ∀ (i : Nat), i + m = n → EvE (fun k => laws_heldStringS.l0 k (marksS n) ((i : Int) + 1) (i : Int)) (· = (n : Int) + 1) := by
  have hl := marksS_length n
  induction m with
  | zero =>
    intro i hi
    refine EvE.succ ?_
    simp only [laws_heldStringS.l0]
    exact EvE.neg (by omega) (EvE.now _ (by omega))
  | succ m ih =>
    intro i hi
    refine EvE.succ ?_
    simp only [laws_heldStringS.l0]
    refine EvE.pos (by omega) (EvE.pos (by omega) ?_)
    refine EvE.bind (laws_markText_ok i (by omega)) ?_
    rintro _ rfl
    rw [marksS_rd (by omega), w64 (x := (i : Int) + 1) (by omega) (by omega), w64 (x := (i : Int) + 1 + 1) (by omega) (by omega)]
    exact EvE.pos (by trivial) (ih (i + 1) (by omega))
theorem laws_heldStringS_ok (n : Nat) (hb : n ≤ 10000000) : EvE (fun k => laws_heldStringS.f k (marksS n) 1) (· = (n : Int) + 1) :=
  laws_heldStringS_loop n hb n 0 (by omega)

theorem impl_WordsOk_ok (l : List ByteArray) (hb : Bound l) : EvE (fun _ => impl_WordsOk.f l) (· = wOk l) := by
  unfold impl_WordsOk.f impl_WordsOk_1.f
  rw [if_pos hb.2, wOk_any]
  refine EvE.ite (fun h => ?_) (fun h => EvE.now _ (by simp [h]))
  refine EvE.bind (EvE.now (P := (· = l.any badW)) _ rfl) ?_
  rintro _ rfl
  exact EvE.now _ (by simp [h])

theorem impl_HeavyNext_loop (l : List ByteArray) (hb : Bound l) (hl : l.length ≤ 12) (m : Nat) : ∀ (i : Nat) (out : List ByteArray), i + m = l.length → out.length ≤ 2 * i → EvE (fun k => impl_HeavyNext.l0 k out l (l.length : Int) (i : Int)) (· = out ++ nextOf (l.drop i)) := by
  induction m with
  | zero =>
    intro i out hi ho
    refine EvE.succ ?_
    simp only [impl_HeavyNext.l0]
    refine EvE.neg (by omega) (EvE.now _ ?_)
    rw [List.drop_of_length_le (by omega)]
    simp [nextOf]
  | succ m ih =>
    intro i out hi ho
    have hs := hb.2 _ (mem_ro ByteArray.empty (xs := l) (i := i) (by omega))
    refine EvE.succ ?_
    simp only [impl_HeavyNext.l0]
    refine EvE.pos (by omega) (EvE.pos (by omega) (EvE.pos (by omega) (EvE.pos (by omega) ?_)))
    refine EvE.bind (EvE.now (P := fun r => r = _) _ rfl) ?_
    rintro _ rfl
    refine EvE.pos (by simp; omega) ?_
    rw [w64 (x := (i : Int) + 1) (by omega) (by omega), drop_ro ByteArray.empty (xs := l) (i := i) (by omega)]
    refine (ih (i + 1) _ (by omega) (by simp; omega)).mono ?_
    rintro _ rfl
    simp [nextOf]
theorem impl_HeavyNext_ok (l : List ByteArray) (hb : Bound l) : EvE (fun k => impl_HeavyNext.f k l) (· = hNext l) := by
  have no : ¬ hOk l = true → EvE (fun k => impl_HeavyNext.j0 k l true) (· = hNext l) := fun h => by
    refine EvE.succ ?_
    simp only [impl_HeavyNext.j0]
    unfold hNext
    exact EvE.pos (by trivial) (EvE.now _ (by rw [if_neg h]))
  have hh := hOk_any l
  unfold impl_HeavyNext.f impl_HeavyNext_1.f
  rw [if_pos hb.2]
  refine EvE.ite (fun h => no (fun e => by rw [hh, Bool.and_eq_true] at e; have := of_decide_eq_true e.1; omega)) (fun h => ?_)
  refine EvE.bind (EvE.now (P := (· = l.any badH)) _ rfl) ?_
  rintro _ rfl
  cases h2 : l.any badH
  · have h3 : hOk l = true := by
      rw [hh, h2, decide_eq_true (show (l.length : Int) ≤ 12 by omega)]; rfl
    refine EvE.succ ?_
    simp only [impl_HeavyNext.j0]
    rw [w64 (x := 2 * (l.length : Int)) (by omega) (by omega)]
    refine EvE.neg (by decide) (EvE.pos (by omega) (EvE.pos (by omega) ?_))
    unfold hNext
    rw [if_pos h3]
    simpa using impl_HeavyNext_loop l hb (by omega) l.length 0 [] (by omega) (by simp)
  · exact no (fun e => by rw [hh, h2, Bool.and_eq_true] at e; exact absurd e.2 (by decide))

theorem impl_HeavyStep_ok (l : List ByteArray) (hb : Bound l) (h : List ByteArray) (hh : Bound h) (n : Int) : EvE (fun k => impl_HeavyStep.f k l h n) (· = wNext l h n) := by
  unfold impl_HeavyStep.f wNext
  refine EvE.bind (impl_WordsOk_ok l hb) ?_
  rintro _ rfl
  refine EvE.ite (fun e => ?_) (fun e => EvE.now _ (by rw [if_neg e]))
  rw [if_pos e]
  refine EvE.bind (impl_HeavyNext_ok h hh) ?_
  rintro _ rfl
  have h24 := hNext_length h
  exact EvE.pos ⟨by omega, fun s hs => ⟨by have := (hNext_mem hs).1; omega, (hNext_mem hs).2⟩⟩ (EvE.now _ rfl)

theorem spec_l41Head_loop (s : ByteArray) (hs : s.size ≤ 140737488351232) (m : Nat) : ∀ i : Nat, i + m = s.size → EvE (fun k => spec_l41Head.l0 k s (i : Int)) (· = ((s.data.toList.drop i).all ab && decide ((s.size : Int) ≤ 3))) := by
  induction m with
  | zero =>
    intro i hi
    refine EvE.succ ?_
    simp only [spec_l41Head.l0]
    refine EvE.neg (by omega) (EvE.now _ ?_)
    rw [List.drop_of_length_le (by simp; omega)]
    rfl
  | succ m ih =>
    intro i hi
    have h := ih (i + 1) (by omega)
    refine EvE.succ ?_
    simp only [spec_l41Head.l0]
    refine EvE.pos (by omega) (EvE.pos (by omega) ?_)
    rw [bt_nat (by omega), w64 (x := (i : Int) + 1) (by omega) (by omega), bytes_drop (by omega)]
    generalize s.data.toList.getD i 0 = c
    refine EvE.ite (fun e => ?_) (fun e => EvE.ite (fun e2 => ?_) (fun e2 => EvE.now _ ?_))
    · have e := byte_97.1 e
      subst e
      exact h
    · have e2 := byte_98.1 e2
      subst e2
      exact h
    · have f1 : ¬ c = 97 := fun x => e (byte_97.2 x)
      have f2 : ¬ c = 98 := fun x => e2 (byte_98.2 x)
      simp [ab, f1, f2]
theorem spec_l41Head_ok (s : ByteArray) (hs : s.size ≤ 140737488351232) : EvE (fun k => spec_l41Head.f k s) (· = pfx s 3) := by
  exact spec_l41Head_loop s hs s.size 0 (by omega)

theorem spec_WordsOk_loop (l : List ByteArray) (hb : Bound l) (m : Nat) : ∀ i : Nat, i + m = l.length → EvE (fun k => spec_WordsOk.l0 k l (i : Int)) (· = (decide ((l.length : Int) ≤ 12) && (l.drop i).all fun s => !badW s)) := by
  have hl := hb.1
  induction m with
  | zero =>
    intro i hi
    refine EvE.succ ?_
    simp only [spec_WordsOk.l0]
    refine EvE.neg (by omega) (EvE.now _ ?_)
    rw [List.drop_of_length_le (by omega)]
    simp
  | succ m ih =>
    intro i hi
    have h := ih (i + 1) (by omega)
    have hs := hb.2 _ (mem_ro ByteArray.empty (xs := l) (i := i) (by omega))
    refine EvE.succ ?_
    simp only [spec_WordsOk.l0]
    refine EvE.pos (by omega) (EvE.pos (by omega) ?_)
    rw [w64 (x := (i : Int) + 1) (by omega) (by omega), drop_ro ByteArray.empty (xs := l) (i := i) (by omega)]
    generalize rdOf ByteArray.empty l (i : Int) = s at *
    refine EvE.ite (fun e => ?_) (fun e => EvE.now _ ?_)
    · have e : s.size = 3 := by omega
      refine EvE.bind (spec_l41Head_ok s hs) ?_
      rintro _ rfl
      refine EvE.ite (fun e2 => ?_) (fun e2 => EvE.now _ ?_)
      · have : badW s = false := by simp [badW, e, e2]
        simpa [this] using h
      · have : badW s = true := by simp [badW, e2]
        simp [this]
    · have e : ¬ s.size = 3 := by omega
      have : badW s = true := by simp [badW, e]
      simp [this]
theorem spec_WordsOk_ok (l : List ByteArray) (hb : Bound l) : EvE (fun k => spec_WordsOk.f k l) (· = wOk l) := by
  exact spec_WordsOk_loop l hb l.length 0 (by omega)

theorem spec_l41Heads_loop (l : List ByteArray) (hb : Bound l) (m : Nat) : ∀ i : Nat, i + m = l.length → EvE (fun k => spec_l41Heads.l0 k l (i : Int)) (· = (decide ((l.length : Int) ≤ 12) && (l.drop i).all fun s => !badH s)) := by
  have hl := hb.1
  induction m with
  | zero =>
    intro i hi
    refine EvE.succ ?_
    simp only [spec_l41Heads.l0]
    refine EvE.neg (by omega) (EvE.now _ ?_)
    rw [List.drop_of_length_le (by omega)]
    simp
  | succ m ih =>
    intro i hi
    have h := ih (i + 1) (by omega)
    have hs := hb.2 _ (mem_ro ByteArray.empty (xs := l) (i := i) (by omega))
    refine EvE.succ ?_
    simp only [spec_l41Heads.l0]
    refine EvE.pos (by omega) (EvE.pos (by omega) ?_)
    rw [w64 (x := (i : Int) + 1) (by omega) (by omega), drop_ro ByteArray.empty (xs := l) (i := i) (by omega)]
    generalize rdOf ByteArray.empty l (i : Int) = s at *
    refine EvE.bind (spec_l41Head_ok s hs) ?_
    rintro _ rfl
    have e3 : badH s = !(s.data.toList.all ab && decide ((s.size : Int) ≤ 2)) := rfl
    refine EvE.ite (fun e2 => EvE.ite (fun e => EvE.now _ ?_) (fun e => ?_)) (fun e2 => EvE.now _ ?_)
    · have : badH s = true := by rw [e3, show decide ((s.size : Int) ≤ 2) = false by simp; omega]; simp
      simp [this]
    · have e4 : s.data.toList.all ab = true := by unfold pfx at e2; rw [Bool.and_eq_true] at e2; exact e2.1
      have : badH s = false := by rw [e3, e4, show decide ((s.size : Int) ≤ 2) = true by simp; omega]; rfl
      simpa [this] using h
    · have : badH s = true := by
        rw [e3]
        cases hx : s.data.toList.all ab
        · rfl
        · rw [show decide ((s.size : Int) ≤ 2) = false by
            unfold pfx at e2
            rw [hx] at e2
            simp at e2 ⊢
            omega]
          rfl
      simp [this]
theorem spec_l41Heads_ok (l : List ByteArray) (hb : Bound l) : EvE (fun k => spec_l41Heads.f k l) (· = hOk l) := by
  exact spec_l41Heads_loop l hb l.length 0 (by omega)

theorem spec_HeavyNext_loop (l : List ByteArray) (hb : Bound l) (hl : l.length ≤ 12) (m : Nat) : ∀ (i : Nat) (out : List ByteArray), i + m = l.length → out.length ≤ 2 * i → EvE (fun k => spec_HeavyNext.l0 k l out (i : Int)) (· = out ++ nextOf (l.drop i)) := by
  induction m with
  | zero =>
    intro i out hi ho
    refine EvE.succ ?_
    simp only [spec_HeavyNext.l0]
    refine EvE.neg (by omega) (EvE.now _ ?_)
    rw [List.drop_of_length_le (by omega)]
    simp [nextOf]
  | succ m ih =>
    intro i out hi ho
    have hs := hb.2 _ (mem_ro ByteArray.empty (xs := l) (i := i) (by omega))
    refine EvE.succ ?_
    simp only [spec_HeavyNext.l0]
    refine EvE.pos (by omega) (EvE.pos (by omega) (EvE.pos (by omega) ?_))
    refine EvE.bind (EvE.now (P := fun r => r = _) _ rfl) ?_
    rintro _ rfl
    refine EvE.pos (by simp; omega) ?_
    rw [w64 (x := (i : Int) + 1) (by omega) (by omega), drop_ro ByteArray.empty (xs := l) (i := i) (by omega)]
    refine (ih (i + 1) _ (by omega) (by simp; omega)).mono ?_
    rintro _ rfl
    simp [nextOf]
theorem spec_HeavyNext_ok (l : List ByteArray) (hb : Bound l) : EvE (fun k => spec_HeavyNext.f k l) (· = hNext l) := by
  unfold spec_HeavyNext.f hNext
  refine EvE.bind (EvE.now (P := (· = [])) _ rfl) ?_
  rintro _ rfl
  refine EvE.bind (spec_l41Heads_ok l hb) ?_
  rintro _ rfl
  refine EvE.ite (fun h => ?_) (fun h => EvE.now _ (by rw [if_neg h]))
  have h12 : l.length ≤ 12 := by
    unfold hOk at h
    rw [Bool.and_eq_true] at h
    have := of_decide_eq_true h.1
    omega
  rw [if_pos h]
  simpa using spec_HeavyNext_loop l hb h12 l.length 0 [] (by omega) (by simp)

theorem spec_l41Many_loop (l : List ByteArray) (hl : wOk l = true) (h : ByteArray) (hh : h.size ≤ 3) (m : Nat) : ∀ (i n : Nat), i + m = l.length → n ≤ i → EvE (fun k => spec_l41Many.l0 k l h (n : Int) (i : Int)) (· = ((n + cnt (l.drop i) h.data.toList : Nat) : Int)) := by
  have h12 := wOk_len hl
  induction m with
  | zero =>
    intro i n hi hn
    refine EvE.succ ?_
    simp only [spec_l41Many.l0]
    refine EvE.neg (by omega) (EvE.now _ ?_)
    rw [List.drop_of_length_le (by omega)]
    rfl
  | succ m ih =>
    intro i n hi hn
    have hs := wOk_mem hl (mem_ro ByteArray.empty (xs := l) (i := i) (by omega))
    rw [cnt_drop_succ l _ i (by omega)]
    refine EvE.succ ?_
    simp only [spec_l41Many.l0]
    rw [w64 (x := (i : Int) + 1) (by omega) (by omega), w64 (x := (n : Int) + 1) (by omega) (by omega)]
    generalize rdOf ByteArray.empty l (i : Int) = s at *
    have e : (s.extract 0 ((h.size : Int) : Int).toNat).toList = h.toList ↔ h.data.toList.isPrefixOf s.data.toList = true := by
      rw [Int.toNat_natCast, extract_take, ByteArray.toList_eq, isPrefixOf_take (by simp; omega)]
      simp
    refine EvE.pos (by omega) (EvE.pos (by omega) (EvE.pos (by omega) (EvE.pos (by omega) ?_)))
    refine EvE.ite (fun e2 => ?_) (fun e2 => ?_)
    · rw [if_pos (e.1 e2)]
      have := ih (i + 1) (n + 1) (by omega) (by omega)
      rwa [show n + (1 + cnt (l.drop (i + 1)) h.data.toList) = n + 1 + cnt (l.drop (i + 1)) h.data.toList by omega]
    · rw [if_neg (fun x => e2 (e.2 x)), Nat.zero_add]
      exact ih (i + 1) n (by omega) (by omega)
theorem spec_l41Many_ok (l : List ByteArray) (hl : wOk l = true) (h : ByteArray) (hh : h.size ≤ 3) : EvE (fun k => spec_l41Many.f k l h) (· = ((cnt l h.data.toList : Nat) : Int)) := by
  have := spec_l41Many_loop l hl h hh l.length 0 0 (by omega) (by omega)
  rw [Nat.zero_add, List.drop_zero] at this
  exact this

theorem spec_HeavyStep_loop (l : List ByteArray) (hl : wOk l = true) (n : Int) (o : List ByteArray) (ho : o.length ≤ 24) (hs : ∀ s ∈ o, s.size ≤ 3) (m : Nat) : ∀ (i : Nat) (x : List ByteArray), i + m = o.length → x.length ≤ i → EvE (fun k => spec_HeavyStep.l0 k l n x o (i : Int)) (· = x ++ (o.drop i).filter (kept l n)) := by
  induction m with
  | zero =>
    intro i x hi hx
    refine EvE.succ ?_
    simp only [spec_HeavyStep.l0]
    refine EvE.neg (by omega) (EvE.now _ ?_)
    rw [List.drop_of_length_le (by omega)]
    simp
  | succ m ih =>
    intro i x hi hx
    have hsz := hs _ (mem_ro ByteArray.empty (xs := o) (i := i) (by omega))
    refine EvE.succ ?_
    simp only [spec_HeavyStep.l0]
    refine EvE.pos (by omega) (EvE.pos (by omega) ?_)
    rw [drop_ro ByteArray.empty (xs := o) (i := i) (by omega), w64 (x := (i : Int) + 1) (by omega) (by omega)]
    generalize rdOf ByteArray.empty o (i : Int) = s at *
    refine EvE.bind (spec_l41Many_ok l hl s hsz) ?_
    rintro _ rfl
    have hk := kept_iff l n s
    refine EvE.ite (fun e => EvE.pos (by omega) ?_) (fun e => ?_)
    · have := ih (i + 1) (x ++ [s]) (by omega) (by simp; omega)
      rw [List.filter_cons, if_pos (hk.2 (by omega))]
      simpa using this
    · rw [List.filter_cons, if_neg (fun z => e (hk.1 z))]
      exact ih (i + 1) x (by omega) (by omega)
theorem spec_HeavyStep_ok (l : List ByteArray) (hb : Bound l) (h : List ByteArray) (hh : Bound h) (n : Int) : EvE (fun k => spec_HeavyStep.f k l h n) (· = wNext l h n) := by
  unfold spec_HeavyStep.f
  refine EvE.bind (EvE.now (P := (· = [])) _ rfl) ?_
  rintro _ rfl
  refine EvE.bind (spec_WordsOk_ok l hb) ?_
  rintro _ rfl
  have no : wNext l h n = [] → EvE (fun k => spec_HeavyStep.j0 k l h n [] true) (· = wNext l h n) := fun e => EvE.succ (by simp only [spec_HeavyStep.j0]; exact EvE.pos (by trivial) (EvE.now _ e.symm))
  refine EvE.ite (fun e => ?_) (fun e => no (by unfold wNext; rw [if_neg e]))
  refine EvE.bind (spec_l41Heads_ok h hh) ?_
  rintro _ rfl
  cases hk : hOk h
  · exact no (by unfold wNext hNext; rw [if_pos e, hk]; rfl)
  · refine EvE.succ ?_
    simp only [spec_HeavyStep.j0]
    refine EvE.neg (by decide) ?_
    refine EvE.bind (spec_HeavyNext_ok h hh) ?_
    rintro _ rfl
    have := spec_HeavyStep_loop l e n (hNext h) (hNext_length h) (fun s hs => (hNext_mem hs).1) (hNext h).length 0 [] (by omega) (by simp)
    unfold wNext
    rw [if_pos e]
    simpa using this

theorem szS_loop (l : List ByteArray) (hl : l.length ≤ 1125899906842624) (hb : ∀ s ∈ l, s.size ≤ 140737488351232) (n : Int) (m : Nat) : ∀ (i : Nat) (x : Int), i + m = l.length → x ≤ n → n ≤ 1048576 → 0 ≤ x → EvE (fun k => laws_szStringS.l0 k l x (i : Int)) (fun r => r < 0 ∨ (0 ≤ r ∧ r ≤ n)) := by
  induction m with
  | zero =>
    intro i x hi hx hn hx0
    refine EvE.succ ?_
    simp only [laws_szStringS.l0]
    exact EvE.neg (by omega) (EvE.now _ (.inr ⟨hx0, hx⟩))
  | succ m ih =>
    intro i x hi hx hn hx0
    have hs := hb _ (mem_ro ByteArray.empty (xs := l) (i := i) (by omega))
    refine EvE.succ ?_
    simp only [laws_szStringS.l0]
    refine EvE.pos (by omega) (EvE.pos (by omega) ?_)
    generalize rdOf ByteArray.empty l (i : Int) = s at *
    rw [w64 (x := x - (s.size : Int)) (by omega) (by omega), w64 (x := (i : Int) + 1) (by omega) (by omega)]
    refine EvE.ite (fun e => EvE.now _ (.inl (by decide))) (fun e => ?_)
    exact ih (i + 1) _ (by omega) (by omega) hn (by omega)
theorem szS_ok (l : List ByteArray) (hl : l.length * 16 ≤ 140737488351232) (hb : ∀ s ∈ l, s.size ≤ 140737488351232) (n : Int) (h0 : 0 ≤ n) (h1 : n ≤ 1048576) : EvE (fun k => laws_szStringS.f k l n) (fun r => r < 0 ∨ ((0 ≤ r ∧ r ≤ 1048576) ∧ l.length ≤ 1048576)) := by
  unfold laws_szStringS.f
  rw [w64 (x := n - (l.length : Int)) (by omega) (by omega)]
  refine EvE.ite (fun e => EvE.now _ (.inl (by decide))) (fun e => ?_)
  refine (szS_loop l (by omega) hb n l.length 0 _ (by omega) (by omega) (by omega) (by omega)).mono ?_
  rintro r (h | h)
  · exact .inl h
  · exact .inr ⟨by omega, by omega⟩
theorem markS_from (p n : Nat) (hb : p + n ≤ 10000000) (m : Nat) : ∀ (i : Nat) (x : List ByteArray), i + m = n → x.length = n → EvE (fun k => laws_markStringS.l0 k x (((p + i : Nat) : Int) + 1) (i : Int)) (fun r => r.1 = ((p + n : Nat) : Int) + 1) := by
  induction m with
  | zero =>
    intro i x hi hx
    refine EvE.succ ?_
    simp only [laws_markStringS.l0]
    exact EvE.neg (by omega) (EvE.now _ (by simp only; omega))
  | succ m ih =>
    intro i x hi hx
    refine EvE.succ ?_
    simp only [laws_markStringS.l0]
    refine EvE.pos (by omega) ?_
    refine EvE.bind (laws_markText_ok (p + i) (by omega)) ?_
    rintro _ rfl
    refine EvE.pos (by omega) ?_
    rw [w64 (x := (i : Int) + 1) (by omega) (by omega), w64 (x := ((p + i : Nat) : Int) + 1 + 1) (by omega) (by omega)]
    exact ih (i + 1) _ (by omega) (by simpa using hx)
theorem markS_ok (p : Nat) (l : List ByteArray) (hb : p + l.length ≤ 10000000) : EvE (fun k => laws_markStringS.f k l ((p : Int) + 1)) (fun r => r.1 = ((p + l.length : Nat) : Int) + 1) :=
  markS_from p l.length hb l.length 0 l (by omega) rfl
theorem FnExactHeavyStep (l h : List ByteArray) (n : Int) (hl : l.length * 16 ≤ 140737488351232) (hs : ∀ s ∈ l, s.size ≤ 140737488351232) (hl2 : h.length * 16 ≤ 140737488351232) (hs2 : ∀ s ∈ h, s.size ≤ 140737488351232) (_ : (Lit.int .i64 n).wf = true) : ∃ k, laws_FnExactHeavyStep.f k l h n = some true := by
  refine EvE.rounds ?_
  unfold laws_FnExactHeavyStep.f
  have hb : Bound l := ⟨by omega, hs⟩
  have hb2 : Bound h := ⟨by omega, hs2⟩
  have hn := (wNext_bound l h n).1
  refine EvE.bind (szS_ok l hl hs 1048576 (by omega) (by omega)) ?_
  rintro r hr
  refine EvE.ite (fun _ => EvE.now _ rfl) (fun h0 => ?_)
  have hr1 : (0 ≤ r ∧ r ≤ 1048576) ∧ l.length ≤ 1048576 := hr.resolve_left h0
  refine EvE.bind (szS_ok h hl2 hs2 r hr1.1.1 hr1.1.2) ?_
  rintro r2 hr2
  refine EvE.ite (fun _ => EvE.now _ rfl) (fun h02 => ?_)
  have hr3 : (0 ≤ r2 ∧ r2 ≤ 1048576) ∧ h.length ≤ 1048576 := hr2.resolve_left h02
  refine EvE.bind (laws_toStringS_ok l (by omega)) ?_
  rintro _ rfl
  refine EvE.bind (laws_toStringS_ok h (by omega)) ?_
  rintro _ rfl
  refine EvE.bind (spec_HeavyStep_ok _ hb _ hb2 n) ?_
  rintro _ rfl
  refine EvE.bind (laws_toStringS_ok _ (by omega)) ?_
  rintro _ rfl
  refine EvE.bind (laws_toStringS_ok _ (by omega)) ?_
  rintro _ rfl
  refine EvE.bind (impl_HeavyStep_ok _ hb _ hb2 n) ?_
  rintro _ rfl
  refine EvE.bind (laws_eqStringS_ok _ (by omega)) ?_
  rintro _ rfl
  refine EvE.pos (by trivial) ?_
  refine EvE.bind (laws_toStringS_ok _ (by omega)) ?_
  rintro _ rfl
  refine EvE.bind (laws_eqStringS_ok _ (by omega)) ?_
  rintro _ rfl
  refine EvE.pos (by trivial) ?_
  refine EvE.bind (laws_toStringS_ok _ (by omega)) ?_
  rintro _ rfl
  refine EvE.bind (laws_eqStringS_ok _ (by omega)) ?_
  rintro _ rfl
  refine EvE.pos (by trivial) ?_
  refine EvE.bind (laws_markStringS_ok _ (by omega)) ?_
  rintro _ rfl
  dsimp only
  refine EvE.bind (markS_ok _ _ (by omega)) ?_
  rintro ⟨q, qs⟩ hq
  dsimp only at hq ⊢
  refine EvE.neg (by omega) ?_
  refine EvE.bind (laws_eqStringS_ok _ (by omega)) ?_
  rintro _ rfl
  refine EvE.succ ?_
  simp only [laws_FnExactHeavyStep.j0]
  refine EvE.neg (by decide) ?_
  refine EvE.bind (laws_markStringS_ok _ (by omega)) ?_
  rintro _ rfl
  dsimp only
  refine EvE.bind (laws_heldStringS_ok _ (by omega)) ?_
  rintro _ rfl
  refine EvE.neg (by omega) (EvE.pos (by trivial) ?_)
  refine EvE.bind (laws_toStringS_ok _ (by omega)) ?_
  rintro _ rfl
  refine EvE.bind (laws_toStringS_ok _ (by omega)) ?_
  rintro _ rfl
  refine EvE.bind (impl_HeavyStep_ok _ hb _ hb2 n) ?_
  rintro _ rfl
  refine EvE.bind (laws_eqStringS_ok _ (by omega)) ?_
  rintro _ rfl
  refine EvE.pos (by trivial) ?_
  refine EvE.bind (laws_heldStringS_ok _ (by omega)) ?_
  rintro _ rfl
  exact EvE.neg (by omega) (EvE.pos (by trivial) (EvE.now _ rfl))

end Go.Proofs.Ytdjenclegglmfaa.Pure
