/- Of the longer beginnings just those are left with which enough drawn words begin, in order. It has no conditions. -/
import Derived.Test.YtdjenclegglmfaaPFnHeavyStepx6
import Derived.Test.YtdjenclegglmfaaPb
namespace Go.Proofs.Ytdjenclegglmfaa.Pure
open Go.RowKit Go.Proofs.Ytdjenclegglmfaa.PFnHeavyStep Go.Proofs.YtdjenclegglmfaaW.PrintWords Go.Proofs.YtdjenclegglmfaaW.PrintLast Go.Proofs.Ytdjenclegglmfaa.Pb
set_option linter.unusedVariables false
set_option linter.unusedSimpArgs false

theorem byte_eq {c : UInt8} {n : Nat} (hn : n < 256) : ((c.toNat : Int) = (n : Int)) ↔ c = UInt8.ofNat n := by
  constructor
  · intro h
    apply UInt8.toNat_inj.1
    rw [UInt8.toNat_ofNat']
    omega
  · rintro rfl
    rw [UInt8.toNat_ofNat']
    omega
theorem byte_97 {c : UInt8} : ((c.toNat : Int) = 97) ↔ c = 97 := byte_eq (n := 97) (by omega)
theorem byte_98 {c : UInt8} : ((c.toNat : Int) = 98) ↔ c = 98 := byte_eq (n := 98) (by omega)
theorem bytes_drop {s : ByteArray} {i : Nat} (h : i < s.size) : s.data.toList.drop i = s.data.toList.getD i 0 :: s.data.toList.drop (i + 1) := by
  have h2 : i < s.data.toList.length := by simpa using h
  rw [List.getD_eq_getElem?_getD, List.getElem?_eq_getElem h2, Option.getD_some]
  exact List.drop_eq_getElem_cons h2
def Bound (l : List ByteArray) : Prop := l.length ≤ 1125899906842624 ∧ ∀ s ∈ l, s.size ≤ 140737488351232

def hOk (l : List ByteArray) : Bool := decide ((l.length : Int) ≤ 12) && l.all fun s => !badH s
theorem hOk_any (l : List ByteArray) : hOk l = (decide ((l.length : Int) ≤ 12) && !l.any badH) := by
  unfold hOk
  rw [List.not_any_eq_all_not]
def nextOf : List ByteArray → List ByteArray
  | [] => []
  | s :: ss => (s ++ (⟨#[97]⟩ : ByteArray)) :: (s ++ (⟨#[98]⟩ : ByteArray)) :: nextOf ss
theorem nextOf_length (l : List ByteArray) : (nextOf l).length = 2 * l.length := by
  induction l with
  | nil => rfl
  | cons s ss ih => simp [nextOf, ih]; omega
def hNext (l : List ByteArray) : List ByteArray := if hOk l = true then nextOf l else []
theorem hNext_length (l : List ByteArray) : (hNext l).length ≤ 24 := by
  unfold hNext
  split
  · have h : hOk l = true := ‹_›
    unfold hOk at h
    rw [Bool.and_eq_true] at h
    have := of_decide_eq_true h.1
    rw [nextOf_length]
    omega
  · simp

def wOk (l : List ByteArray) : Bool := decide ((l.length : Int) ≤ 12) && l.all fun s => !badW s
theorem wOk_any (l : List ByteArray) : wOk l = (decide ((l.length : Int) ≤ 12) && !l.any badW) := by
  unfold wOk
  rw [List.not_any_eq_all_not]
theorem wOk_sub {l m : List ByteArray} (h : wOk l = true) (hl : m.length ≤ l.length) (hm : ∀ s ∈ m, s ∈ l) : wOk m = true := by
  unfold wOk at h ⊢
  rw [Bool.and_eq_true, List.all_eq_true] at h ⊢
  exact ⟨by have := of_decide_eq_true h.1; exact decide_eq_true (by omega), fun s hs => h.2 s (hm s hs)⟩
theorem wOk_bad {l : List ByteArray} {s : ByteArray} (hs : s ∈ l) (hb : badW s = true) : wOk l = false := by
  unfold wOk
  rw [Bool.and_eq_false_iff]
  refine .inr ?_
  rw [Bool.eq_false_iff]
  intro e
  have := List.all_eq_true.1 e s hs
  rw [hb] at this
  cases this

theorem byteArray_data_inj {a b : ByteArray} (h : a.data = b.data) : a = b := by
  cases a; cases b; simp at h; rw [h]
instance memBA (a : ByteArray) (l : List ByteArray) : Decidable (a ∈ l) := decidable_of_iff (l.any (fun s => s.data.toList == a.data.toList) = true) (by
  rw [List.any_eq_true]
  constructor
  · rintro ⟨x, hx, he⟩
    have : x = a := byteArray_data_inj (Array.toList_inj.1 (eq_of_beq he))
    rwa [← this]
  · intro h
    exact ⟨a, h, by simp⟩)
theorem isPrefixOf_take {p s : List UInt8} (h : p.length ≤ s.length) : (p.isPrefixOf s = true) ↔ s.take p.length = p := by
  rw [List.isPrefixOf_iff_prefix, List.prefix_iff_eq_take]
  exact ⟨fun h => h.symm, fun h => h.symm⟩
theorem extract_take (s : ByteArray) (n : Nat) : (s.extract 0 n).toList = s.data.toList.take n := by
  rw [ByteArray.toList_eq]
  simp [ByteArray.data_extract]
def mMany (l : List ByteArray) (h : ByteArray) : Int := if wOk l = true ∧ pfx h 3 = true then (cnt l h.data.toList : Nat) else -1
theorem cnt_drop_succ (l : List ByteArray) (p : Pre) (i : Nat) (hi : i < l.length) : cnt (l.drop i) p = (if p.isPrefixOf (rdOf ByteArray.empty l (i : Int)).data.toList = true then 1 else 0) + cnt (l.drop (i + 1)) p := by
  rw [drop_ro ByteArray.empty (xs := l) (i := i) hi]
  unfold cnt
  rw [List.countP_cons]
  omega
theorem cnt_le (l : List ByteArray) (p : Pre) : cnt l p ≤ l.length := List.countP_le_length
theorem wOk_len {l : List ByteArray} (h : wOk l = true) : l.length ≤ 12 := by
  unfold wOk at h
  rw [Bool.and_eq_true] at h
  have := of_decide_eq_true h.1
  omega
theorem wOk_mem {l : List ByteArray} (h : wOk l = true) {s : ByteArray} (hs : s ∈ l) : s.size = 3 ∧ s.data.toList.all ab = true := by
  unfold wOk at h
  rw [Bool.and_eq_true, List.all_eq_true] at h
  have := h.2 s hs
  simp only [badW, pfx, Bool.not_or, Bool.not_not, Bool.and_eq_true] at this
  simp at this
  exact ⟨by omega, by simpa using this.2.1⟩
theorem pfx_size {s : ByteArray} {m : Nat} (h : pfx s (m : Int) = true) : s.size ≤ m := by
  unfold pfx at h
  rw [Bool.and_eq_true] at h
  have := of_decide_eq_true h.2
  omega
theorem cnt_nil (l : List ByteArray) : cnt l [] = l.length := by
  unfold cnt
  rw [List.countP_eq_length]
  intro s _
  rfl
theorem cnt_two {l : List ByteArray} (hl : wOk l = true) {p : Pre} (hp : p.length < 3) : cnt l (p ++ [97]) + cnt l (p ++ [98]) = cnt l p := by
  unfold wOk at hl
  rw [Bool.and_eq_true, List.all_eq_true] at hl
  obtain ⟨-, hl⟩ := hl
  induction l with
  | nil => rfl
  | cons s ss ih =>
    have ih := ih (fun x hx => hl x (List.mem_cons_of_mem _ hx))
    have hs := hl s (List.mem_cons_self ..)
    simp only [badW, pfx, Bool.not_or, Bool.not_not, Bool.and_eq_true] at hs
    have h3 : s.data.toList.length = 3 := by have := hs.1; simp at this; simp; omega
    have ha : s.data.toList.all ab = true := hs.2.1
    unfold cnt at ih ⊢
    simp only [List.countP_cons]
    generalize s.data.toList = t at *
    have key : (if (p ++ [97]).isPrefixOf t = true then 1 else 0) + (if (p ++ [98]).isPrefixOf t = true then 1 else 0) = (if p.isPrefixOf t = true then 1 else 0) := by
      simp only [List.isPrefixOf_iff_prefix]
      by_cases h : p <+: t
      · obtain ⟨q, rfl⟩ := h
        cases q with
        | nil => simp at h3; omega
        | cons x q =>
          have hx : ab x = true := List.all_eq_true.1 ha x (by simp)
          have e : ∀ y : UInt8, (p ++ [y] <+: p ++ x :: q) ↔ y = x := fun y => by
            rw [List.prefix_append_right_inj, List.cons_prefix_cons]
            simp
          simp only [e, List.prefix_append, if_true]
          have hx : x = 97 ∨ x = 98 := by simpa [ab] using hx
          rcases hx with rfl | rfl
          · rw [if_pos rfl, if_neg (by decide)]
          · rw [if_neg (by decide), if_pos rfl]
      · have e : ∀ y : UInt8, ¬ (p ++ [y] <+: t) := fun y hy => h ((List.prefix_append _ _).trans hy)
        rw [if_neg (e _), if_neg (e _), if_neg h]
    omega

theorem pfx_all {s : ByteArray} {m : Int} (h : pfx s m = true) : s.data.toList.all ab = true := by
  unfold pfx at h
  rw [Bool.and_eq_true] at h
  exact h.1
def wNext (l : List ByteArray) (h : List ByteArray) (n : Int) : List ByteArray := if wOk l = true then (hNext h).filter (kept l n) else []
theorem hNext_mem {h : List ByteArray} {s : ByteArray} (hs : s ∈ hNext h) : s.size ≤ 3 ∧ s.data.toList.all ab = true := by
  unfold hNext at hs
  split at hs
  · rename_i hok
    unfold hOk at hok
    rw [Bool.and_eq_true, List.all_eq_true] at hok
    obtain ⟨-, hok⟩ := hok
    induction h with
    | nil => cases hs
    | cons x xs ih =>
      have hx := hok x (List.mem_cons_self ..)
      have hx : pfx x 2 = true := by simpa [badH] using hx
      have h2 := pfx_size (m := 2) hx
      have h3 := pfx_all hx
      rw [nextOf] at hs
      rcases List.mem_cons.1 hs with rfl | hs
      · refine ⟨by rw [ByteArray.size_append]; show x.size + 1 ≤ 3; omega, ?_⟩
        rw [ByteArray.data_append, Array.toList_append, List.all_append, h3]
        rfl
      · rcases List.mem_cons.1 hs with rfl | hs
        · refine ⟨by rw [ByteArray.size_append]; show x.size + 1 ≤ 3; omega, ?_⟩
          rw [ByteArray.data_append, Array.toList_append, List.all_append, h3]
          rfl
        · exact ih hs (fun y hy => hok y (List.mem_cons_of_mem _ hy))
  · cases hs
theorem wNext_bound (l h : List ByteArray) (n : Int) : (wNext l h n).length ≤ 24 ∧ ∀ s ∈ wNext l h n, s.size ≤ 3 := by
  unfold wNext
  split
  · exact ⟨Nat.le_trans (List.length_filter_le _ _) (hNext_length h), fun s hs => (hNext_mem ((List.mem_filter.1 hs).1)).1⟩
  · exact ⟨by simp, fun s hs => by cases hs⟩
theorem wNext_Bound (l h : List ByteArray) (n : Int) : Bound (wNext l h n) := by
  obtain ⟨h1, h2⟩ := wNext_bound l h n
  exact ⟨by omega, fun s hs => by have := h2 s hs; omega⟩
def nul : ByteArray := ⟨#[]⟩
def wAll (l : List ByteArray) (n : Int) : List ByteArray := if wOk l = true ∧ 1 ≤ n then wNext l (wNext l (wNext l [nul] n) n) n else []
theorem nul_Bound : Bound [nul] := ⟨by simp, fun s hs => by
  obtain rfl : s = nul := by simpa using hs
  decide⟩
theorem wAll_len (l : List ByteArray) (n : Int) : (wAll l n).length ≤ 24 := by
  unfold wAll
  split
  · exact (wNext_bound _ _ _).1
  · simp
theorem wAll_Bound (l : List ByteArray) (n : Int) : Bound (wAll l n) := by
  unfold wAll
  split
  · exact wNext_Bound _ _ _
  · exact ⟨by simp, fun s hs => by cases hs⟩
theorem kept_iff (l : List ByteArray) (n : Int) (s : ByteArray) : kept l n s = true ↔ n ≤ (cnt l s.data.toList : Nat) := by
  simp [kept]

theorem spec_l41Head_loop (s : ByteArray) (hs : s.size ≤ 140737488351232) (m : Nat) : ∀ i : Nat, i + m = s.size → EvE (fun k => spec_l41Head.l0 k s (i : Int)) (· = ((s.data.toList.drop i).all ab && decide ((s.size : Int) ≤ 3))) := by
  induction m with
  | zero =>
    intro i hi
    refine EvE.succ ?_
    simp only [spec_l41Head.l0]
    refine EvE.neg (by omega) (EvE.now _ ?_)
    rw [List.drop_of_length_le (by simp; omega)]
    rfl
  | succ m ih =>
    intro i hi
    have h := ih (i + 1) (by omega)
    refine EvE.succ ?_
    simp only [spec_l41Head.l0]
    refine EvE.pos (by omega) (EvE.pos (by omega) ?_)
    rw [bt_nat (by omega), w64 (x := (i : Int) + 1) (by omega) (by omega), bytes_drop (by omega)]
    generalize s.data.toList.getD i 0 = c
    refine EvE.ite (fun e => ?_) (fun e => EvE.ite (fun e2 => ?_) (fun e2 => EvE.now _ ?_))
    · have e := byte_97.1 e
      subst e
      exact h
    · have e2 := byte_98.1 e2
      subst e2
      exact h
    · have f1 : ¬ c = 97 := fun x => e (byte_97.2 x)
      have f2 : ¬ c = 98 := fun x => e2 (byte_98.2 x)
      simp [ab, f1, f2]
theorem spec_l41Head_ok (s : ByteArray) (hs : s.size ≤ 140737488351232) : EvE (fun k => spec_l41Head.f k s) (· = pfx s 3) := by
  exact spec_l41Head_loop s hs s.size 0 (by omega)

theorem spec_WordsOk_loop (l : List ByteArray) (hb : Bound l) (m : Nat) : ∀ i : Nat, i + m = l.length → EvE (fun k => spec_WordsOk.l0 k l (i : Int)) (· = (decide ((l.length : Int) ≤ 12) && (l.drop i).all fun s => !badW s)) := by
  have hl := hb.1
  induction m with
  | zero =>
    intro i hi
    refine EvE.succ ?_
    simp only [spec_WordsOk.l0]
    refine EvE.neg (by omega) (EvE.now _ ?_)
    rw [List.drop_of_length_le (by omega)]
    simp
  | succ m ih =>
    intro i hi
    have h := ih (i + 1) (by omega)
    have hs := hb.2 _ (mem_ro ByteArray.empty (xs := l) (i := i) (by omega))
    refine EvE.succ ?_
    simp only [spec_WordsOk.l0]
    refine EvE.pos (by omega) (EvE.pos (by omega) ?_)
    rw [w64 (x := (i : Int) + 1) (by omega) (by omega), drop_ro ByteArray.empty (xs := l) (i := i) (by omega)]
    generalize rdOf ByteArray.empty l (i : Int) = s at *
    refine EvE.ite (fun e => ?_) (fun e => EvE.now _ ?_)
    · have e : s.size = 3 := by omega
      refine EvE.bind (spec_l41Head_ok s hs) ?_
      rintro _ rfl
      refine EvE.ite (fun e2 => ?_) (fun e2 => EvE.now _ ?_)
      · have : badW s = false := by simp [badW, e, e2]
        simpa [this] using h
      · have : badW s = true := by simp [badW, e2]
        simp [this]
    · have e : ¬ s.size = 3 := by omega
      have : badW s = true := by simp [badW, e]
      simp [this]
theorem spec_WordsOk_ok (l : List ByteArray) (hb : Bound l) : EvE (fun k => spec_WordsOk.f k l) (· = wOk l) := by
  exact spec_WordsOk_loop l hb l.length 0 (by omega)

theorem impl_HeavyNext_loop (l : List ByteArray) (hb : Bound l) (hl : l.length ≤ 12) (m : Nat) : ∀ (i : Nat) (out : List ByteArray), i + m = l.length → out.length ≤ 2 * i → EvE (fun k => impl_HeavyNext.l0 k out l (l.length : Int) (i : Int)) (· = out ++ nextOf (l.drop i)) := by
  induction m with
  | zero =>
    intro i out hi ho
    refine EvE.succ ?_
    simp only [impl_HeavyNext.l0]
    refine EvE.neg (by omega) (EvE.now _ ?_)
    rw [List.drop_of_length_le (by omega)]
    simp [nextOf]
  | succ m ih =>
    intro i out hi ho
    have hs := hb.2 _ (mem_ro ByteArray.empty (xs := l) (i := i) (by omega))
    refine EvE.succ ?_
    simp only [impl_HeavyNext.l0]
    refine EvE.pos (by omega) (EvE.pos (by omega) (EvE.pos (by omega) (EvE.pos (by omega) ?_)))
    refine EvE.bind (EvE.now (P := fun r => r = _) _ rfl) ?_
    rintro _ rfl
    refine EvE.pos (by simp; omega) ?_
    rw [w64 (x := (i : Int) + 1) (by omega) (by omega), drop_ro ByteArray.empty (xs := l) (i := i) (by omega)]
    refine (ih (i + 1) _ (by omega) (by simp; omega)).mono ?_
    rintro _ rfl
    simp [nextOf]
theorem impl_HeavyNext_ok (l : List ByteArray) (hb : Bound l) : EvE (fun k => impl_HeavyNext.f k l) (· = hNext l) := by
  have no : ¬ hOk l = true → EvE (fun k => impl_HeavyNext.j0 k l true) (· = hNext l) := fun h => by
    refine EvE.succ ?_
    simp only [impl_HeavyNext.j0]
    unfold hNext
    exact EvE.pos (by trivial) (EvE.now _ (by rw [if_neg h]))
  have hh := hOk_any l
  unfold impl_HeavyNext.f impl_HeavyNext_1.f
  rw [if_pos hb.2]
  refine EvE.ite (fun h => no (fun e => by rw [hh, Bool.and_eq_true] at e; have := of_decide_eq_true e.1; omega)) (fun h => ?_)
  refine EvE.bind (EvE.now (P := (· = l.any badH)) _ rfl) ?_
  rintro _ rfl
  cases h2 : l.any badH
  · have h3 : hOk l = true := by
      rw [hh, h2, decide_eq_true (show (l.length : Int) ≤ 12 by omega)]; rfl
    refine EvE.succ ?_
    simp only [impl_HeavyNext.j0]
    rw [w64 (x := 2 * (l.length : Int)) (by omega) (by omega)]
    refine EvE.neg (by decide) (EvE.pos (by omega) (EvE.pos (by omega) ?_))
    unfold hNext
    rw [if_pos h3]
    simpa using impl_HeavyNext_loop l hb (by omega) l.length 0 [] (by omega) (by simp)
  · exact no (fun e => by rw [hh, h2, Bool.and_eq_true] at e; exact absurd e.2 (by decide))

theorem laws_loTexts_loop (l : List ByteArray) (hb : l.length ≤ 1125899906842624) (m : Nat) : ∀ i : Nat, i + m = l.length → EvE (fun k => laws_loTexts.l0 k l l (i : Int)) (· = true) := by
  induction m with
  | zero =>
    intro i hi
    refine EvE.succ ?_
    simp only [laws_loTexts.l0]
    exact EvE.neg (by omega) (EvE.now _ rfl)
  | succ m ih =>
    intro i hi
    refine EvE.succ ?_
    simp only [laws_loTexts.l0]
    refine EvE.pos (by omega) (EvE.pos (by omega) (EvE.pos (by omega) (EvE.pos (by trivial) ?_)))
    rw [w64 (x := (i : Int) + 1) (by omega) (by omega)]
    exact ih (i + 1) (by omega)
theorem laws_loTexts_ok (l : List ByteArray) (hb : l.length ≤ 1125899906842624) : EvE (fun k => laws_loTexts.f k l l) (· = true) := by
  unfold laws_loTexts.f
  exact EvE.pos (by trivial) (laws_loTexts_loop l hb l.length 0 (by omega))

theorem impl_WordsOk_ok (l : List ByteArray) (hb : Bound l) : EvE (fun _ => impl_WordsOk.f l) (· = wOk l) := by
  unfold impl_WordsOk.f impl_WordsOk_1.f
  rw [if_pos hb.2, wOk_any]
  refine EvE.ite (fun h => ?_) (fun h => EvE.now _ (by simp [h]))
  refine EvE.bind (EvE.now (P := (· = l.any badW)) _ rfl) ?_
  rintro _ rfl
  exact EvE.now _ (by simp [h])

theorem impl_HeavyMany_ok (l : List ByteArray) (hb : Bound l) (h : ByteArray) (hh : h.size ≤ 140737488351232) : EvE (fun _ => impl_HeavyMany.f l h) (· = mMany l h) := by
  unfold impl_HeavyMany.f mMany
  refine EvE.bind (impl_WordsOk_ok l hb) ?_
  rintro _ rfl
  refine EvE.ite (fun e => ?_) (fun e => EvE.now _ (by rw [if_neg (fun x => e x.1)]))
  refine EvE.pos hh ?_
  refine EvE.ite (fun e2 => EvE.now _ (by rw [if_pos ⟨e, e2⟩])) (fun e2 => EvE.now _ (by rw [if_neg (fun x => e2 x.2)]))

theorem spec_l6Open_ok {l : List Int} (h : ∀ x ∈ l, (Lit.int .u8 x).wf = true) : EvE (fun _ => spec_l6Open.f l) (fun r => ∃ s, r = (s, 0) ∧ Coded s) := by
  have h := u8_range h
  unfold spec_l6Open.f
  refine EvE.ite (fun h1 => EvE.pos (by omega) (EvE.now _ ⟨_, rfl, fun x hx => h x (List.mem_of_mem_take hx), ?_⟩)) (fun h1 => EvE.now _ ⟨_, rfl, h, by omega⟩)
  rw [List.length_take]; omega

theorem spec_l6Rd_pick_ok {s : List Int} (hs : Coded s) (p n : Int) (h0 : 0 ≤ p) (h1 : p ≤ 1000000) (hn : 1 ≤ n) (hn' : n ≤ 1000000) :
    EvE (fun k => spec_l6Rd_pick.f k s p n) (fun r => ∃ v, r = (v, p + 1) ∧ 0 ≤ v ∧ v < n) := by
  unfold spec_l6Rd_pick.f
  rw [w64 (x := p + 1) (by omega) (by omega)]
  refine EvE.neg (by omega) (EvE.succ ?_)
  simp only [spec_l6Rd_pick.j0]
  have e : wrap64 (p + 1 - 1) = p := by rw [w64 (by omega) (by omega)]; omega
  rw [e]
  have rg := rd_range hs.1
  have hl := hs.2
  refine EvE.ite (fun _ => EvE.now _ ⟨0, rfl, by omega, by omega⟩) (fun hz => ?_)
  have hpos : 1 ≤ (s.length : Int) := by
    have : s.length ≠ 0 := by simpa using hz
    omega
  refine EvE.ite (fun hlt => EvE.pos h0 (EvE.neg (by omega) (EvE.now _ ?_))) (fun hge => ?_)
  · have := rg p
    rw [w64 (x := rd s p) (by omega) (by omega)]
    exact ⟨_, rfl, tmod_range (by omega) hn⟩
  · refine EvE.neg (by omega) ?_
    have t1 := tmod_range (a := p) (n := (s.length : Int)) h0 hpos
    have e1 : wrap64 (p * 7) = p * 7 := w64 (by omega) (by omega)
    have e2 : wrap64 (p * 7 + 3) = p * 7 + 3 := w64 (by omega) (by omega)
    rw [e1, e2]
    have t2 := tmod_range (a := p * 7 + 3) (n := (s.length : Int)) (by omega) hpos
    refine EvE.pos t1.1 (EvE.pos t1.2 (EvE.pos t2.1 (EvE.pos t2.2 (EvE.neg (by omega) (EvE.now _ ?_)))))
    have r1 := rg (Int.tmod p s.length)
    have r2 := rg (Int.tmod (p * 7 + 3) s.length)
    generalize rd s (Int.tmod p s.length) = A at *
    generalize rd s (Int.tmod (p * 7 + 3) s.length) = B at *
    have dq : 0 ≤ Int.tdiv p s.length ∧ Int.tdiv p s.length ≤ p := by
      rw [Int.tdiv_eq_ediv_of_nonneg h0]
      exact ⟨Int.ediv_nonneg h0 (by omega), Int.ediv_le_self _ h0⟩
    generalize Int.tdiv p s.length = Q at *
    rw [w64 (x := A) (by omega) (by omega), w64 (x := B) (by omega) (by omega), w64 (x := A * 131) (by omega) (by omega), w64 (x := B * 1117) (by omega) (by omega), w64 (x := p * 29) (by omega) (by omega), w64 (x := Q) (by omega) (by omega), w64 (x := Q * 53) (by omega) (by omega), w64 (x := A * 131 + B * 1117) (by omega) (by omega), w64 (x := A * 131 + B * 1117 + p * 29) (by omega) (by omega), w64 (x := A * 131 + B * 1117 + p * 29 + Q * 53) (by omega) (by omega)]
    have hX : 0 ≤ A * 131 + B * 1117 + p * 29 + Q * 53 ∧ A * 131 + B * 1117 + p * 29 + Q * 53 < 1000000000000 := by omega
    generalize A * 131 + B * 1117 + p * 29 + Q * 53 = X at *
    have e3 : wrap64 (Int.tdiv X 64) = X / 64 := by
      rw [Int.tdiv_eq_ediv_of_nonneg hX.1]
      exact w64 (by omega) (by omega)
    rw [e3]
    have hx := xor_nonneg (a := X) (b := X / 64) (by omega) (by omega) (by omega) (by omega)
    exact ⟨_, rfl, tmod_range hx.1 hn⟩

theorem spec_l6Rd_of_ok {s : List Int} (hs : Coded s) (p : Int) (h0 : 0 ≤ p) (h1 : p ≤ 1000000) (l : List ByteArray) (hl : 1 ≤ l.length) (hl' : l.length ≤ 100) :
    EvE (fun k => spec_l6Rd_of.f k s p l) (fun r => ∃ v, r = (v, p + 1) ∧ v ∈ l) := by
  unfold spec_l6Rd_of.f
  refine EvE.bind (spec_l6Rd_pick_ok hs p (l.length : Int) h0 h1 (by omega) (by omega)) ?_
  rintro _ ⟨v, rfl, hv, hv'⟩
  dsimp only
  refine EvE.pos hv (EvE.pos hv' (EvE.now _ ⟨_, rfl, ?_⟩))
  obtain ⟨n, rfl⟩ := Int.eq_ofNat_of_zero_le hv
  exact mem_ro _ (by omega)

theorem spec_l92Words_loop {s : List Int} (hs : Coded s) (n : Nat) : ∀ (out : List ByteArray) (p : Int), n ≤ 10 → out.length + n ≤ 10 → (∀ x ∈ out, x.size ≤ 4) → 0 ≤ p → p + 2 * (n : Int) ≤ 900000 →
    EvE (fun k => spec_l92Words.l0 k out (n : Int) s p) (fun r => ∃ o q, r = (o, q) ∧ o.length ≤ 11 ∧ (∀ x ∈ o, x.size ≤ 4) ∧ p ≤ q ∧ q ≤ p + (n : Int) + 5) := by
  induction n with
  | zero =>
    intro out p hn ho hx h0 h1
    refine EvE.succ ?_
    simp only [spec_l92Words.l0]
    refine EvE.neg (by omega) ?_
    refine EvE.bind (spec_l6Rd_pick_ok hs p 40 h0 (by omega) (by omega) (by omega)) ?_
    rintro _ ⟨a, rfl, _⟩
    dsimp only
    refine EvE.ite (fun _ => ?_) (fun _ => EvE.now _ ⟨_, _, rfl, by omega, hx, by omega, by omega⟩)
    refine EvE.bind (spec_l6Rd_of_ok hs _ (by omega) (by omega) _ (by simp) (by simp)) ?_
    rintro _ ⟨v, rfl, hv⟩
    dsimp only
    refine EvE.pos (by omega) (EvE.now _ ⟨_, _, rfl, by simp; omega, ?_, by omega, by omega⟩)
    intro x hx'
    rcases List.mem_append.1 hx' with h | h
    · exact hx x h
    · obtain rfl : x = v := by simpa using h
      simp only [List.mem_cons, List.not_mem_nil, or_false] at hv
      rcases hv with rfl | rfl | rfl <;> decide
  | succ n ih =>
    intro out p hn ho hx h0 h1
    refine EvE.succ ?_
    simp only [spec_l92Words.l0]
    refine EvE.pos (by omega) ?_
    refine EvE.bind (spec_l6Rd_of_ok hs _ (by omega) (by omega) _ (by simp) (by simp)) ?_
    rintro _ ⟨v, rfl, hv⟩
    dsimp only
    rw [show ((n + 1 : Nat) : Int) - 1 = (n : Int) by omega, w64 (x := (n : Int)) (by omega) (by omega)]
    refine EvE.pos (by omega) ?_
    refine (ih _ _ (by omega) (by simp; omega) ?_ (by omega) (by omega)).mono ?_
    · intro x hx'
      rcases List.mem_append.1 hx' with h | h
      · exact hx x h
      · obtain rfl : x = v := by simpa using h
        simp only [List.mem_cons, List.not_mem_nil, or_false] at hv
        rcases hv with rfl | rfl | rfl | rfl | rfl | rfl | rfl | rfl <;> decide
    · rintro _ ⟨o, q, rfl, h2, h3, h4, h5⟩
      exact ⟨o, q, rfl, h2, h3, by omega, by omega⟩
theorem spec_l92Words_ok {s : List Int} (hs : Coded s) (p : Int) (h0 : 0 ≤ p) (h1 : p ≤ 800000) :
    EvE (fun k => spec_l92Words.f k s p) (fun r => ∃ o q, r = (o, q) ∧ o.length ≤ 11 ∧ (∀ x ∈ o, x.size ≤ 4) ∧ p ≤ q ∧ q ≤ p + 20) := by
  unfold spec_l92Words.f
  refine EvE.bind (spec_l6Rd_pick_ok hs p 11 h0 (by omega) (by omega) (by omega)) ?_
  rintro _ ⟨n, rfl, hn, hn'⟩
  dsimp only
  obtain ⟨n, rfl⟩ := Int.eq_ofNat_of_zero_le hn
  refine (spec_l92Words_loop hs n [] _ (by omega) (by simp; omega) (by simp) (by omega) (by omega)).mono ?_
  rintro _ ⟨o, q, rfl, h2, h3, h4, h5⟩
  exact ⟨o, q, rfl, h2, h3, by omega, by omega⟩

theorem headsOf_small : ∀ h ∈ headsOf, h.length ≤ 2 ∧ ∀ x ∈ h, x.size ≤ 2 := by decide
theorem spec_DrawHeavyStep_ok {l : List Int} (h : ∀ x ∈ l, (Lit.int .u8 x).wf = true) : EvE (fun k => spec_DrawHeavyStep.f k l) (fun r => ∃ o h v, r = (o, h, v) ∧ (o.length ≤ 11 ∧ ∀ x ∈ o, x.size ≤ 4) ∧ (h.length ≤ 2 ∧ ∀ x ∈ h, x.size ≤ 2)) := by
  unfold spec_DrawHeavyStep.f
  refine EvE.bind (spec_l6Open_ok h) ?_
  rintro _ ⟨s, rfl, hs⟩
  dsimp only
  refine EvE.bind (spec_l92Words_ok hs 0 (by omega) (by omega)) ?_
  rintro _ ⟨o, q, rfl, h2, h3, h4, h5⟩
  dsimp only
  refine EvE.bind (spec_l6Rd_pick_ok hs _ 5 (by omega) (by omega) (by omega) (by omega)) ?_
  rintro _ ⟨a, rfl, ha, ha'⟩
  dsimp only
  refine EvE.pos ⟨ha, ha'⟩ ?_
  refine EvE.bind (spec_l6Rd_pick_ok hs _ 5 (by omega) (by omega) (by omega) (by omega)) ?_
  rintro _ ⟨b, rfl, hb, hb'⟩
  have hl : a.toNat < headsOf.length := by show a.toNat < 5; omega
  have hm : headsOf.getD a.toNat [] ∈ headsOf := by
    rw [List.getD_eq_getElem?_getD, List.getElem?_eq_getElem hl]
    exact List.getElem_mem hl
  exact EvE.now _ ⟨_, _, _, rfl, ⟨h2, h3⟩, headsOf_small _ hm⟩

theorem impl_HeavyStep_ok (l : List ByteArray) (hb : Bound l) (h : List ByteArray) (hh : Bound h) (n : Int) : EvE (fun k => impl_HeavyStep.f k l h n) (· = wNext l h n) := by
  unfold impl_HeavyStep.f wNext
  refine EvE.bind (impl_WordsOk_ok l hb) ?_
  rintro _ rfl
  refine EvE.ite (fun e => ?_) (fun e => EvE.now _ (by rw [if_neg e]))
  rw [if_pos e]
  refine EvE.bind (impl_HeavyNext_ok h hh) ?_
  rintro _ rfl
  have h24 := hNext_length h
  exact EvE.pos ⟨by omega, fun s hs => ⟨by have := (hNext_mem hs).1; omega, (hNext_mem hs).2⟩⟩ (EvE.now _ rfl)

theorem spec_l41Heads_loop (l : List ByteArray) (hb : Bound l) (m : Nat) : ∀ i : Nat, i + m = l.length → EvE (fun k => spec_l41Heads.l0 k l (i : Int)) (· = (decide ((l.length : Int) ≤ 12) && (l.drop i).all fun s => !badH s)) := by
  have hl := hb.1
  induction m with
  | zero =>
    intro i hi
    refine EvE.succ ?_
    simp only [spec_l41Heads.l0]
    refine EvE.neg (by omega) (EvE.now _ ?_)
    rw [List.drop_of_length_le (by omega)]
    simp
  | succ m ih =>
    intro i hi
    have h := ih (i + 1) (by omega)
    have hs := hb.2 _ (mem_ro ByteArray.empty (xs := l) (i := i) (by omega))
    refine EvE.succ ?_
    simp only [spec_l41Heads.l0]
    refine EvE.pos (by omega) (EvE.pos (by omega) ?_)
    rw [w64 (x := (i : Int) + 1) (by omega) (by omega), drop_ro ByteArray.empty (xs := l) (i := i) (by omega)]
    generalize rdOf ByteArray.empty l (i : Int) = s at *
    refine EvE.bind (spec_l41Head_ok s hs) ?_
    rintro _ rfl
    have e3 : badH s = !(s.data.toList.all ab && decide ((s.size : Int) ≤ 2)) := rfl
    refine EvE.ite (fun e2 => EvE.ite (fun e => EvE.now _ ?_) (fun e => ?_)) (fun e2 => EvE.now _ ?_)
    · have : badH s = true := by rw [e3, show decide ((s.size : Int) ≤ 2) = false by simp; omega]; simp
      simp [this]
    · have e4 : s.data.toList.all ab = true := by unfold pfx at e2; rw [Bool.and_eq_true] at e2; exact e2.1
      have : badH s = false := by rw [e3, e4, show decide ((s.size : Int) ≤ 2) = true by simp; omega]; rfl
      simpa [this] using h
    · have : badH s = true := by
        rw [e3]
        cases hx : s.data.toList.all ab
        · rfl
        · rw [show decide ((s.size : Int) ≤ 2) = false by
            unfold pfx at e2
            rw [hx] at e2
            simp at e2 ⊢
            omega]
          rfl
      simp [this]
theorem spec_l41Heads_ok (l : List ByteArray) (hb : Bound l) : EvE (fun k => spec_l41Heads.f k l) (· = hOk l) := by
  exact spec_l41Heads_loop l hb l.length 0 (by omega)

theorem spec_HeavyNext_loop (l : List ByteArray) (hb : Bound l) (hl : l.length ≤ 12) (m : Nat) : ∀ (i : Nat) (out : List ByteArray), i + m = l.length → out.length ≤ 2 * i → EvE (fun k => spec_HeavyNext.l0 k l out (i : Int)) (· = out ++ nextOf (l.drop i)) := by
  induction m with
  | zero =>
    intro i out hi ho
    refine EvE.succ ?_
    simp only [spec_HeavyNext.l0]
    refine EvE.neg (by omega) (EvE.now _ ?_)
    rw [List.drop_of_length_le (by omega)]
    simp [nextOf]
  | succ m ih =>
    intro i out hi ho
    have hs := hb.2 _ (mem_ro ByteArray.empty (xs := l) (i := i) (by omega))
    refine EvE.succ ?_
    simp only [spec_HeavyNext.l0]
    refine EvE.pos (by omega) (EvE.pos (by omega) (EvE.pos (by omega) ?_))
    refine EvE.bind (EvE.now (P := fun r => r = _) _ rfl) ?_
    rintro _ rfl
    refine EvE.pos (by simp; omega) ?_
    rw [w64 (x := (i : Int) + 1) (by omega) (by omega), drop_ro ByteArray.empty (xs := l) (i := i) (by omega)]
    refine (ih (i + 1) _ (by omega) (by simp; omega)).mono ?_
    rintro _ rfl
    simp [nextOf]
theorem spec_HeavyNext_ok (l : List ByteArray) (hb : Bound l) : EvE (fun k => spec_HeavyNext.f k l) (· = hNext l) := by
  unfold spec_HeavyNext.f hNext
  refine EvE.bind (EvE.now (P := (· = [])) _ rfl) ?_
  rintro _ rfl
  refine EvE.bind (spec_l41Heads_ok l hb) ?_
  rintro _ rfl
  refine EvE.ite (fun h => ?_) (fun h => EvE.now _ (by rw [if_neg h]))
  have h12 : l.length ≤ 12 := by
    unfold hOk at h
    rw [Bool.and_eq_true] at h
    have := of_decide_eq_true h.1
    omega
  rw [if_pos h]
  simpa using spec_HeavyNext_loop l hb h12 l.length 0 [] (by omega) (by simp)

theorem spec_l41Many_loop (l : List ByteArray) (hl : wOk l = true) (h : ByteArray) (hh : h.size ≤ 3) (m : Nat) : ∀ (i n : Nat), i + m = l.length → n ≤ i → EvE (fun k => spec_l41Many.l0 k l h (n : Int) (i : Int)) (· = ((n + cnt (l.drop i) h.data.toList : Nat) : Int)) := by
  have h12 := wOk_len hl
  induction m with
  | zero =>
    intro i n hi hn
    refine EvE.succ ?_
    simp only [spec_l41Many.l0]
    refine EvE.neg (by omega) (EvE.now _ ?_)
    rw [List.drop_of_length_le (by omega)]
    rfl
  | succ m ih =>
    intro i n hi hn
    have hs := wOk_mem hl (mem_ro ByteArray.empty (xs := l) (i := i) (by omega))
    rw [cnt_drop_succ l _ i (by omega)]
    refine EvE.succ ?_
    simp only [spec_l41Many.l0]
    rw [w64 (x := (i : Int) + 1) (by omega) (by omega), w64 (x := (n : Int) + 1) (by omega) (by omega)]
    generalize rdOf ByteArray.empty l (i : Int) = s at *
    have e : (s.extract 0 ((h.size : Int) : Int).toNat).toList = h.toList ↔ h.data.toList.isPrefixOf s.data.toList = true := by
      rw [Int.toNat_natCast, extract_take, ByteArray.toList_eq, isPrefixOf_take (by simp; omega)]
      simp
    refine EvE.pos (by omega) (EvE.pos (by omega) (EvE.pos (by omega) (EvE.pos (by omega) ?_)))
    refine EvE.ite (fun e2 => ?_) (fun e2 => ?_)
    · rw [if_pos (e.1 e2)]
      have := ih (i + 1) (n + 1) (by omega) (by omega)
      rwa [show n + (1 + cnt (l.drop (i + 1)) h.data.toList) = n + 1 + cnt (l.drop (i + 1)) h.data.toList by omega]
    · rw [if_neg (fun x => e2 (e.2 x)), Nat.zero_add]
      exact ih (i + 1) n (by omega) (by omega)
theorem spec_l41Many_ok (l : List ByteArray) (hl : wOk l = true) (h : ByteArray) (hh : h.size ≤ 3) : EvE (fun k => spec_l41Many.f k l h) (· = ((cnt l h.data.toList : Nat) : Int)) := by
  have := spec_l41Many_loop l hl h hh l.length 0 0 (by omega) (by omega)
  rw [Nat.zero_add, List.drop_zero] at this
  exact this

theorem spec_HeavyStep_loop (l : List ByteArray) (hl : wOk l = true) (n : Int) (o : List ByteArray) (ho : o.length ≤ 24) (hs : ∀ s ∈ o, s.size ≤ 3) (m : Nat) : ∀ (i : Nat) (x : List ByteArray), i + m = o.length → x.length ≤ i → EvE (fun k => spec_HeavyStep.l0 k l n x o (i : Int)) (· = x ++ (o.drop i).filter (kept l n)) := by
  induction m with
  | zero =>
    intro i x hi hx
    refine EvE.succ ?_
    simp only [spec_HeavyStep.l0]
    refine EvE.neg (by omega) (EvE.now _ ?_)
    rw [List.drop_of_length_le (by omega)]
    simp
  | succ m ih =>
    intro i x hi hx
    have hsz := hs _ (mem_ro ByteArray.empty (xs := o) (i := i) (by omega))
    refine EvE.succ ?_
    simp only [spec_HeavyStep.l0]
    refine EvE.pos (by omega) (EvE.pos (by omega) ?_)
    rw [drop_ro ByteArray.empty (xs := o) (i := i) (by omega), w64 (x := (i : Int) + 1) (by omega) (by omega)]
    generalize rdOf ByteArray.empty o (i : Int) = s at *
    refine EvE.bind (spec_l41Many_ok l hl s hsz) ?_
    rintro _ rfl
    have hk := kept_iff l n s
    refine EvE.ite (fun e => EvE.pos (by omega) ?_) (fun e => ?_)
    · have := ih (i + 1) (x ++ [s]) (by omega) (by simp; omega)
      rw [List.filter_cons, if_pos (hk.2 (by omega))]
      simpa using this
    · rw [List.filter_cons, if_neg (fun z => e (hk.1 z))]
      exact ih (i + 1) x (by omega) (by omega)
theorem spec_HeavyStep_ok (l : List ByteArray) (hb : Bound l) (h : List ByteArray) (hh : Bound h) (n : Int) : EvE (fun k => spec_HeavyStep.f k l h n) (· = wNext l h n) := by
  unfold spec_HeavyStep.f
  refine EvE.bind (EvE.now (P := (· = [])) _ rfl) ?_
  rintro _ rfl
  refine EvE.bind (spec_WordsOk_ok l hb) ?_
  rintro _ rfl
  have no : wNext l h n = [] → EvE (fun k => spec_HeavyStep.j0 k l h n [] true) (· = wNext l h n) := fun e => EvE.succ (by simp only [spec_HeavyStep.j0]; exact EvE.pos (by trivial) (EvE.now _ e.symm))
  refine EvE.ite (fun e => ?_) (fun e => no (by unfold wNext; rw [if_neg e]))
  refine EvE.bind (spec_l41Heads_ok h hh) ?_
  rintro _ rfl
  cases hk : hOk h
  · exact no (by unfold wNext hNext; rw [if_pos e, hk]; rfl)
  · refine EvE.succ ?_
    simp only [spec_HeavyStep.j0]
    refine EvE.neg (by decide) ?_
    refine EvE.bind (spec_HeavyNext_ok h hh) ?_
    rintro _ rfl
    have := spec_HeavyStep_loop l e n (hNext h) (hNext_length h) (fun s hs => (hNext_mem hs).1) (hNext h).length 0 [] (by omega) (by simp)
    unfold wNext
    rw [if_pos e]
    simpa using this

theorem mMany_next {l h : List ByteArray} (hl : wOk l = true) {s : ByteArray} (hs : s ∈ hNext h) : mMany l s = (cnt l s.data.toList : Nat) := by
  obtain ⟨h1, h2⟩ := hNext_mem hs
  unfold mMany
  rw [if_pos ⟨hl, by unfold pfx; rw [h2, decide_eq_true (by omega)]; rfl⟩]
theorem filter_take_succ {α : Type} (p : α → Bool) (l : List α) (i : Nat) (h : i < l.length) : (l.take (i + 1)).filter p = (l.take i).filter p ++ (if p l[i] = true then [l[i]] else []) := by
  rw [List.take_succ_eq_append_getElem h, List.filter_append]
  congr 1
  cases hp : p l[i] <;> simp [hp]
theorem filter_at {α : Type} (p : α → Bool) (l : List α) (i : Nat) (h : i < l.length) (hp : p l[i] = true) : (l.filter p)[((l.take i).filter p).length]? = some l[i] := by
  have e : l.filter p = (l.take i).filter p ++ (l.drop i).filter p := by rw [← List.filter_append, List.take_append_drop]
  rw [e, List.getElem?_append_right (Nat.le_refl _), Nat.sub_self, List.drop_eq_getElem_cons h, List.filter_cons, if_pos hp]
  rfl
theorem HeavyStep_loop (l h : List ByteArray) (hb : Bound l) (hl : wOk l = true) (n : Int) (m : Nat) : ∀ i : Nat, i + m = (hNext h).length →
    EvE (fun k => laws_FnHeavyStep.l0 k l n ((hNext h).filter (kept l n)) (hNext h) (((((hNext h).take i).filter (kept l n)).length : Nat) : Int) (i : Int)) (· = true) := by
  have h24 := hNext_length h
  have hle : ((hNext h).filter (kept l n)).length ≤ (hNext h).length := List.length_filter_le _ _
  induction m with
  | zero =>
    intro i hi
    refine EvE.succ ?_
    simp only [laws_FnHeavyStep.l0]
    refine EvE.neg (by omega) (EvE.now _ ?_)
    rw [List.take_of_length_le (by omega)]
    simp
  | succ m ih =>
    intro i hi
    have hlt : i < (hNext h).length := by omega
    have hmem : (hNext h)[i] ∈ hNext h := List.getElem_mem hlt
    have e := mMany_next (l := l) (h := h) hl hmem
    have ht := filter_take_succ (kept l n) (hNext h) i hlt
    have hcount : (((hNext h).take i).filter (kept l n)).length ≤ i := Nat.le_trans (List.length_filter_le _ _) (by rw [List.length_take]; omega)
    have ihn := ih (i + 1) (by omega)
    refine EvE.succ ?_
    simp only [laws_FnHeavyStep.l0]
    refine EvE.pos (by omega) (EvE.pos (by omega) ?_)
    rw [ro_nat hlt]
    refine EvE.bind (impl_HeavyMany_ok l hb _ (by have := (hNext_mem hmem).1; omega)) ?_
    rintro _ rfl
    rw [e, w64 (x := (i : Int) + 1) (by omega) (by omega)]
    refine EvE.ite (fun hn => ?_) (fun hn => ?_)
    · have hk : ¬ kept l n (hNext h)[i] = true := by rw [kept_iff]; omega
      rw [if_neg hk, List.append_nil] at ht
      rw [ht] at ihn
      exact ihn
    · have hk : kept l n (hNext h)[i] = true := by rw [kept_iff]; omega
      rw [if_pos hk] at ht
      have hat := filter_at (kept l n) (hNext h) i hlt hk
      have hlt2 := (List.getElem?_eq_some_iff.1 hat).1
      have hge := (List.getElem?_eq_some_iff.1 hat).2
      rw [ht, List.length_append, List.length_singleton] at ihn
      rw [ro_nat hlt2, hge, w64 (x := ((((((hNext h).take i).filter (kept l n)).length : Nat) : Int) + 1)) (by omega) (by omega)]
      exact EvE.neg (by omega) (EvE.pos (by omega) (EvE.pos (by omega) (EvE.pos rfl ihn)))
theorem FnHeavyStep : laws_FnHeavyStep.Pure := by
  intro l _ _ hw
  refine EvE.rounds ?_
  unfold laws_FnHeavyStep.f
  refine EvE.ite (fun _ => EvE.now _ rfl) (fun _ => ?_)
  refine EvE.bind (spec_DrawHeavyStep_ok hw) ?_
  rintro _ ⟨o, h, v, rfl, ⟨ho, hx⟩, hh, hhx⟩
  have hb : Bound o := ⟨by omega, fun s hs => by have := hx s hs; omega⟩
  have hb2 : Bound h := ⟨by omega, fun s hs => by have := hhx s hs; omega⟩
  have hn := (wNext_bound o h v).1
  dsimp only
  refine EvE.bind (impl_HeavyStep_ok o hb h hb2 v) ?_
  rintro _ rfl
  refine EvE.bind (spec_HeavyStep_ok o hb h hb2 v) ?_
  rintro _ rfl
  refine EvE.bind (laws_loTexts_ok _ (by omega)) ?_
  rintro _ rfl
  refine EvE.pos (by trivial) (EvE.bind (spec_WordsOk_ok o hb) ?_)
  rintro _ rfl
  refine EvE.succ ?_
  simp only [laws_FnHeavyStep.j0]
  refine EvE.ite (fun _ => ?_) (fun hl => ?_)
  · refine EvE.bind (spec_HeavyStep_ok o hb h hb2 v) ?_
    rintro _ rfl
    refine EvE.tail ?_
    exact laws_loTexts_ok _ (by omega)
  · have hl2 : wOk o = true := by
      cases hq : wOk o
      · rw [hq] at hl; exact absurd rfl hl
      · rfl
    refine EvE.bind (impl_HeavyNext_ok h hb2) ?_
    rintro _ rfl
    have e : wNext o h v = (hNext h).filter (kept o v) := by unfold wNext; rw [if_pos hl2]
    rw [e]
    exact HeavyStep_loop o h hb hl2 v _ 0 (Nat.zero_add _)

end Go.Proofs.Ytdjenclegglmfaa.Pure
