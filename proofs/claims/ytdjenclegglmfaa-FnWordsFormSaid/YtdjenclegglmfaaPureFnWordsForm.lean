/- Drawn texts are words just if the reference says so; of words each part is words, and with a text that is none they are none. It has no conditions. -/
import Derived.Test.YtdjenclegglmfaaPFnWordsFormx2
import Derived.Test.YtdjenclegglmfaaPb
namespace Go.Proofs.Ytdjenclegglmfaa.Pure
open Go.RowKit Go.Proofs.Ytdjenclegglmfaa.PFnWordsForm Go.Proofs.YtdjenclegglmfaaW.PrintWords Go.Proofs.YtdjenclegglmfaaW.PrintLast Go.Proofs.Ytdjenclegglmfaa.Pb
set_option linter.unusedVariables false
set_option linter.unusedSimpArgs false

theorem byte_eq {c : UInt8} {n : Nat} (hn : n < 256) : ((c.toNat : Int) = (n : Int)) ↔ c = UInt8.ofNat n := by
  constructor
  · intro h
    apply UInt8.toNat_inj.1
    rw [UInt8.toNat_ofNat']
    omega
  · rintro rfl
    rw [UInt8.toNat_ofNat']
    omega
theorem byte_97 {c : UInt8} : ((c.toNat : Int) = 97) ↔ c = 97 := byte_eq (n := 97) (by omega)
theorem byte_98 {c : UInt8} : ((c.toNat : Int) = 98) ↔ c = 98 := byte_eq (n := 98) (by omega)
theorem bytes_drop {s : ByteArray} {i : Nat} (h : i < s.size) : s.data.toList.drop i = s.data.toList.getD i 0 :: s.data.toList.drop (i + 1) := by
  have h2 : i < s.data.toList.length := by simpa using h
  rw [List.getD_eq_getElem?_getD, List.getElem?_eq_getElem h2, Option.getD_some]
  exact List.drop_eq_getElem_cons h2
def Bound (l : List ByteArray) : Prop := l.length ≤ 1125899906842624 ∧ ∀ s ∈ l, s.size ≤ 140737488351232

def wOk (l : List ByteArray) : Bool := decide ((l.length : Int) ≤ 12) && l.all fun s => !badW s
theorem wOk_any (l : List ByteArray) : wOk l = (decide ((l.length : Int) ≤ 12) && !l.any badW) := by
  unfold wOk
  rw [List.not_any_eq_all_not]
theorem wOk_sub {l m : List ByteArray} (h : wOk l = true) (hl : m.length ≤ l.length) (hm : ∀ s ∈ m, s ∈ l) : wOk m = true := by
  unfold wOk at h ⊢
  rw [Bool.and_eq_true, List.all_eq_true] at h ⊢
  exact ⟨by have := of_decide_eq_true h.1; exact decide_eq_true (by omega), fun s hs => h.2 s (hm s hs)⟩
theorem wOk_bad {l : List ByteArray} {s : ByteArray} (hs : s ∈ l) (hb : badW s = true) : wOk l = false := by
  unfold wOk
  rw [Bool.and_eq_false_iff]
  refine .inr ?_
  rw [Bool.eq_false_iff]
  intro e
  have := List.all_eq_true.1 e s hs
  rw [hb] at this
  cases this

theorem spec_l41Head_loop (s : ByteArray) (hs : s.size ≤ 140737488351232) (m : Nat) : ∀ i : Nat, i + m = s.size → EvE (fun k => spec_l41Head.l0 k s (i : Int)) (· = ((s.data.toList.drop i).all ab && decide ((s.size : Int) ≤ 3))) := by
  induction m with
  | zero =>
    intro i hi
    refine EvE.succ ?_
    simp only [spec_l41Head.l0]
    refine EvE.neg (by omega) (EvE.now _ ?_)
    rw [List.drop_of_length_le (by simp; omega)]
    rfl
  | succ m ih =>
    intro i hi
    have h := ih (i + 1) (by omega)
    refine EvE.succ ?_
    simp only [spec_l41Head.l0]
    refine EvE.pos (by omega) (EvE.pos (by omega) ?_)
    rw [bt_nat (by omega), w64 (x := (i : Int) + 1) (by omega) (by omega), bytes_drop (by omega)]
    generalize s.data.toList.getD i 0 = c
    refine EvE.ite (fun e => ?_) (fun e => EvE.ite (fun e2 => ?_) (fun e2 => EvE.now _ ?_))
    · have e := byte_97.1 e
      subst e
      exact h
    · have e2 := byte_98.1 e2
      subst e2
      exact h
    · have f1 : ¬ c = 97 := fun x => e (byte_97.2 x)
      have f2 : ¬ c = 98 := fun x => e2 (byte_98.2 x)
      simp [ab, f1, f2]
theorem spec_l41Head_ok (s : ByteArray) (hs : s.size ≤ 140737488351232) : EvE (fun k => spec_l41Head.f k s) (· = pfx s 3) := by
  exact spec_l41Head_loop s hs s.size 0 (by omega)

theorem spec_WordsOk_loop (l : List ByteArray) (hb : Bound l) (m : Nat) : ∀ i : Nat, i + m = l.length → EvE (fun k => spec_WordsOk.l0 k l (i : Int)) (· = (decide ((l.length : Int) ≤ 12) && (l.drop i).all fun s => !badW s)) := by
  have hl := hb.1
  induction m with
  | zero =>
    intro i hi
    refine EvE.succ ?_
    simp only [spec_WordsOk.l0]
    refine EvE.neg (by omega) (EvE.now _ ?_)
    rw [List.drop_of_length_le (by omega)]
    simp
  | succ m ih =>
    intro i hi
    have h := ih (i + 1) (by omega)
    have hs := hb.2 _ (mem_ro ByteArray.empty (xs := l) (i := i) (by omega))
    refine EvE.succ ?_
    simp only [spec_WordsOk.l0]
    refine EvE.pos (by omega) (EvE.pos (by omega) ?_)
    rw [w64 (x := (i : Int) + 1) (by omega) (by omega), drop_ro ByteArray.empty (xs := l) (i := i) (by omega)]
    generalize rdOf ByteArray.empty l (i : Int) = s at *
    refine EvE.ite (fun e => ?_) (fun e => EvE.now _ ?_)
    · have e : s.size = 3 := by omega
      refine EvE.bind (spec_l41Head_ok s hs) ?_
      rintro _ rfl
      refine EvE.ite (fun e2 => ?_) (fun e2 => EvE.now _ ?_)
      · have : badW s = false := by simp [badW, e, e2]
        simpa [this] using h
      · have : badW s = true := by simp [badW, e2]
        simp [this]
    · have e : ¬ s.size = 3 := by omega
      have : badW s = true := by simp [badW, e]
      simp [this]
theorem spec_WordsOk_ok (l : List ByteArray) (hb : Bound l) : EvE (fun k => spec_WordsOk.f k l) (· = wOk l) := by
  exact spec_WordsOk_loop l hb l.length 0 (by omega)

theorem impl_WordsOk_ok (l : List ByteArray) (hb : Bound l) : EvE (fun _ => impl_WordsOk.f l) (· = wOk l) := by
  unfold impl_WordsOk.f impl_WordsOk_1.f
  rw [if_pos hb.2, wOk_any]
  refine EvE.ite (fun h => ?_) (fun h => EvE.now _ (by simp [h]))
  refine EvE.bind (EvE.now (P := (· = l.any badW)) _ rfl) ?_
  rintro _ rfl
  exact EvE.now _ (by simp [h])

theorem spec_l6Open_ok {l : List Int} (h : ∀ x ∈ l, (Lit.int .u8 x).wf = true) : EvE (fun _ => spec_l6Open.f l) (fun r => ∃ s, r = (s, 0) ∧ Coded s) := by
  have h := u8_range h
  unfold spec_l6Open.f
  refine EvE.ite (fun h1 => EvE.pos (by omega) (EvE.now _ ⟨_, rfl, fun x hx => h x (List.mem_of_mem_take hx), ?_⟩)) (fun h1 => EvE.now _ ⟨_, rfl, h, by omega⟩)
  rw [List.length_take]; omega

theorem spec_l6Rd_pick_ok {s : List Int} (hs : Coded s) (p n : Int) (h0 : 0 ≤ p) (h1 : p ≤ 1000000) (hn : 1 ≤ n) (hn' : n ≤ 1000000) :
    EvE (fun k => spec_l6Rd_pick.f k s p n) (fun r => ∃ v, r = (v, p + 1) ∧ 0 ≤ v ∧ v < n) := by
  unfold spec_l6Rd_pick.f
  rw [w64 (x := p + 1) (by omega) (by omega)]
  refine EvE.neg (by omega) (EvE.succ ?_)
  simp only [spec_l6Rd_pick.j0]
  have e : wrap64 (p + 1 - 1) = p := by rw [w64 (by omega) (by omega)]; omega
  rw [e]
  have rg := rd_range hs.1
  have hl := hs.2
  refine EvE.ite (fun _ => EvE.now _ ⟨0, rfl, by omega, by omega⟩) (fun hz => ?_)
  have hpos : 1 ≤ (s.length : Int) := by
    have : s.length ≠ 0 := by simpa using hz
    omega
  refine EvE.ite (fun hlt => EvE.pos h0 (EvE.neg (by omega) (EvE.now _ ?_))) (fun hge => ?_)
  · have := rg p
    rw [w64 (x := rd s p) (by omega) (by omega)]
    exact ⟨_, rfl, tmod_range (by omega) hn⟩
  · refine EvE.neg (by omega) ?_
    have t1 := tmod_range (a := p) (n := (s.length : Int)) h0 hpos
    have e1 : wrap64 (p * 7) = p * 7 := w64 (by omega) (by omega)
    have e2 : wrap64 (p * 7 + 3) = p * 7 + 3 := w64 (by omega) (by omega)
    rw [e1, e2]
    have t2 := tmod_range (a := p * 7 + 3) (n := (s.length : Int)) (by omega) hpos
    refine EvE.pos t1.1 (EvE.pos t1.2 (EvE.pos t2.1 (EvE.pos t2.2 (EvE.neg (by omega) (EvE.now _ ?_)))))
    have r1 := rg (Int.tmod p s.length)
    have r2 := rg (Int.tmod (p * 7 + 3) s.length)
    generalize rd s (Int.tmod p s.length) = A at *
    generalize rd s (Int.tmod (p * 7 + 3) s.length) = B at *
    have dq : 0 ≤ Int.tdiv p s.length ∧ Int.tdiv p s.length ≤ p := by
      rw [Int.tdiv_eq_ediv_of_nonneg h0]
      exact ⟨Int.ediv_nonneg h0 (by omega), Int.ediv_le_self _ h0⟩
    generalize Int.tdiv p s.length = Q at *
    rw [w64 (x := A) (by omega) (by omega), w64 (x := B) (by omega) (by omega), w64 (x := A * 131) (by omega) (by omega), w64 (x := B * 1117) (by omega) (by omega), w64 (x := p * 29) (by omega) (by omega), w64 (x := Q) (by omega) (by omega), w64 (x := Q * 53) (by omega) (by omega), w64 (x := A * 131 + B * 1117) (by omega) (by omega), w64 (x := A * 131 + B * 1117 + p * 29) (by omega) (by omega), w64 (x := A * 131 + B * 1117 + p * 29 + Q * 53) (by omega) (by omega)]
    have hX : 0 ≤ A * 131 + B * 1117 + p * 29 + Q * 53 ∧ A * 131 + B * 1117 + p * 29 + Q * 53 < 1000000000000 := by omega
    generalize A * 131 + B * 1117 + p * 29 + Q * 53 = X at *
    have e3 : wrap64 (Int.tdiv X 64) = X / 64 := by
      rw [Int.tdiv_eq_ediv_of_nonneg hX.1]
      exact w64 (by omega) (by omega)
    rw [e3]
    have hx := xor_nonneg (a := X) (b := X / 64) (by omega) (by omega) (by omega) (by omega)
    exact ⟨_, rfl, tmod_range hx.1 hn⟩

theorem spec_l6Rd_of_ok {s : List Int} (hs : Coded s) (p : Int) (h0 : 0 ≤ p) (h1 : p ≤ 1000000) (l : List ByteArray) (hl : 1 ≤ l.length) (hl' : l.length ≤ 100) :
    EvE (fun k => spec_l6Rd_of.f k s p l) (fun r => ∃ v, r = (v, p + 1) ∧ v ∈ l) := by
  unfold spec_l6Rd_of.f
  refine EvE.bind (spec_l6Rd_pick_ok hs p (l.length : Int) h0 h1 (by omega) (by omega)) ?_
  rintro _ ⟨v, rfl, hv, hv'⟩
  dsimp only
  refine EvE.pos hv (EvE.pos hv' (EvE.now _ ⟨_, rfl, ?_⟩))
  obtain ⟨n, rfl⟩ := Int.eq_ofNat_of_zero_le hv
  exact mem_ro _ (by omega)

theorem spec_l92Words_loop {s : List Int} (hs : Coded s) (n : Nat) : ∀ (out : List ByteArray) (p : Int), n ≤ 10 → out.length + n ≤ 10 → (∀ x ∈ out, x.size ≤ 4) → 0 ≤ p → p + 2 * (n : Int) ≤ 900000 →
    EvE (fun k => spec_l92Words.l0 k out (n : Int) s p) (fun r => ∃ o q, r = (o, q) ∧ o.length ≤ 11 ∧ (∀ x ∈ o, x.size ≤ 4) ∧ p ≤ q ∧ q ≤ p + (n : Int) + 5) := by
  induction n with
  | zero =>
    intro out p hn ho hx h0 h1
    refine EvE.succ ?_
    simp only [spec_l92Words.l0]
    refine EvE.neg (by omega) ?_
    refine EvE.bind (spec_l6Rd_pick_ok hs p 40 h0 (by omega) (by omega) (by omega)) ?_
    rintro _ ⟨a, rfl, _⟩
    dsimp only
    refine EvE.ite (fun _ => ?_) (fun _ => EvE.now _ ⟨_, _, rfl, by omega, hx, by omega, by omega⟩)
    refine EvE.bind (spec_l6Rd_of_ok hs _ (by omega) (by omega) _ (by simp) (by simp)) ?_
    rintro _ ⟨v, rfl, hv⟩
    dsimp only
    refine EvE.pos (by omega) (EvE.now _ ⟨_, _, rfl, by simp; omega, ?_, by omega, by omega⟩)
    intro x hx'
    rcases List.mem_append.1 hx' with h | h
    · exact hx x h
    · obtain rfl : x = v := by simpa using h
      simp only [List.mem_cons, List.not_mem_nil, or_false] at hv
      rcases hv with rfl | rfl | rfl <;> decide
  | succ n ih =>
    intro out p hn ho hx h0 h1
    refine EvE.succ ?_
    simp only [spec_l92Words.l0]
    refine EvE.pos (by omega) ?_
    refine EvE.bind (spec_l6Rd_of_ok hs _ (by omega) (by omega) _ (by simp) (by simp)) ?_
    rintro _ ⟨v, rfl, hv⟩
    dsimp only
    rw [show ((n + 1 : Nat) : Int) - 1 = (n : Int) by omega, w64 (x := (n : Int)) (by omega) (by omega)]
    refine EvE.pos (by omega) ?_
    refine (ih _ _ (by omega) (by simp; omega) ?_ (by omega) (by omega)).mono ?_
    · intro x hx'
      rcases List.mem_append.1 hx' with h | h
      · exact hx x h
      · obtain rfl : x = v := by simpa using h
        simp only [List.mem_cons, List.not_mem_nil, or_false] at hv
        rcases hv with rfl | rfl | rfl | rfl | rfl | rfl | rfl | rfl <;> decide
    · rintro _ ⟨o, q, rfl, h2, h3, h4, h5⟩
      exact ⟨o, q, rfl, h2, h3, by omega, by omega⟩
theorem spec_l92Words_ok {s : List Int} (hs : Coded s) (p : Int) (h0 : 0 ≤ p) (h1 : p ≤ 800000) :
    EvE (fun k => spec_l92Words.f k s p) (fun r => ∃ o q, r = (o, q) ∧ o.length ≤ 11 ∧ (∀ x ∈ o, x.size ≤ 4) ∧ p ≤ q ∧ q ≤ p + 20) := by
  unfold spec_l92Words.f
  refine EvE.bind (spec_l6Rd_pick_ok hs p 11 h0 (by omega) (by omega) (by omega)) ?_
  rintro _ ⟨n, rfl, hn, hn'⟩
  dsimp only
  obtain ⟨n, rfl⟩ := Int.eq_ofNat_of_zero_le hn
  refine (spec_l92Words_loop hs n [] _ (by omega) (by simp; omega) (by simp) (by omega) (by omega)).mono ?_
  rintro _ ⟨o, q, rfl, h2, h3, h4, h5⟩
  exact ⟨o, q, rfl, h2, h3, by omega, by omega⟩

theorem spec_DrawWordsOk_ok {l : List Int} (h : ∀ x ∈ l, (Lit.int .u8 x).wf = true) : EvE (fun k => spec_DrawWordsOk.f k l) (fun o => o.length ≤ 12 ∧ ∀ x ∈ o, x.size ≤ 4) := by
  unfold spec_DrawWordsOk.f
  refine EvE.bind (spec_l6Open_ok h) ?_
  rintro _ ⟨s, rfl, hs⟩
  dsimp only
  refine EvE.bind (spec_l92Words_ok hs 0 (by omega) (by omega)) ?_
  rintro _ ⟨o, q, rfl, h2, h3, h4, h5⟩
  dsimp only
  refine EvE.bind (spec_l6Rd_pick_ok hs _ 5 (by omega) (by omega) (by omega) (by omega)) ?_
  rintro _ ⟨a, rfl, _⟩
  dsimp only
  refine EvE.ite (fun _ => ?_) (fun _ => EvE.now _ ⟨by omega, h3⟩)
  refine EvE.bind (spec_l6Rd_of_ok hs _ (by omega) (by omega) _ (by simp) (by simp)) ?_
  rintro _ ⟨v, rfl, hv⟩
  dsimp only
  refine EvE.pos (by omega) (EvE.now _ ⟨by simp; omega, ?_⟩)
  intro x hx'
  rcases List.mem_append.1 hx' with h | h
  · exact h3 x h
  · obtain rfl : x = v := by simpa using h
    simp only [List.mem_cons, List.not_mem_nil, or_false] at hv
    rcases hv with rfl | rfl | rfl | rfl <;> decide

theorem FnWordsForm : laws_FnWordsForm.Pure := by
  intro l m _ _ hw _ _ _
  refine EvE.rounds ?_
  have yes : EvE (fun k => laws_FnWordsForm.j0 k l m true) (· = true) := EvE.succ (by simp only [laws_FnWordsForm.j0]; exact EvE.pos (by trivial) (EvE.now _ rfl))
  unfold laws_FnWordsForm.f
  refine EvE.ite (fun _ => yes) (fun _ => ?_)
  by_cases hm : (m.length : Int) > 1048576
  · rw [decide_eq_true hm]; exact yes
  rw [decide_eq_false hm]
  refine EvE.succ ?_
  simp only [laws_FnWordsForm.j0]
  refine EvE.neg (by decide) ?_
  refine EvE.bind (spec_DrawWordsOk_ok hw) ?_
  rintro o ⟨ho, hx⟩
  have hb : Bound o := ⟨by omega, fun s hs => by have := hx s hs; omega⟩
  refine EvE.bind (impl_WordsOk_ok o hb) ?_
  rintro _ rfl
  refine EvE.bind (spec_WordsOk_ok o hb) ?_
  rintro _ rfl
  refine EvE.neg (by simp) (EvE.succ ?_)
  simp only [laws_FnWordsForm.j1]
  refine EvE.ite (fun _ => ?_) (fun h => ?_)
  · refine EvE.bind (spec_WordsOk_ok o hb) ?_
    rintro _ rfl
    exact EvE.now _ (by simp)
  have h : wOk o = true := by simpa using h
  rw [w64 (x := (o.length : Int) + 1) (by omega) (by omega)]
  refine EvE.neg (by omega) ?_
  have hk0 : 0 ≤ (m.length : Int) % ((o.length : Int) + 1) := Int.emod_nonneg _ (by omega)
  have hk1 : (m.length : Int) % ((o.length : Int) + 1) < (o.length : Int) + 1 := Int.emod_lt_of_pos _ (by omega)
  generalize (m.length : Int) % ((o.length : Int) + 1) = c at *
  obtain ⟨c, rfl⟩ := Int.eq_ofNat_of_zero_le hk0
  rw [Int.toNat_natCast]
  have b1 : Bound (o.take c) := ⟨by rw [List.length_take]; omega, fun s hs => hb.2 s (List.mem_of_mem_take hs)⟩
  have b2 : Bound (o.drop c) := ⟨by rw [List.length_drop]; omega, fun s hs => hb.2 s (List.mem_of_mem_drop hs)⟩
  refine EvE.pos (by omega) (EvE.pos (by omega) ?_)
  refine EvE.bind (impl_WordsOk_ok _ b1) ?_
  rintro _ rfl
  refine EvE.pos (wOk_sub h (by rw [List.length_take]; omega) (fun s hs => List.mem_of_mem_take hs)) ?_
  refine EvE.bind (impl_WordsOk_ok _ b2) ?_
  rintro _ rfl
  refine EvE.pos (wOk_sub h (by rw [List.length_drop]; omega) (fun s hs => List.mem_of_mem_drop hs)) ?_
  have bad : ∀ v : ByteArray, v.size ≤ 4 → badW v = true → EvE (fun _ => impl_WordsOk.f (o.take c ++ [v])) (· = false) := by
    intro v hv hbad
    refine (impl_WordsOk_ok _ ⟨by simp [List.length_take]; omega, fun s hs => ?_⟩).mono ?_
    · rcases List.mem_append.1 hs with h1 | h1
      · exact b1.2 s h1
      · obtain rfl : s = v := by simpa using h1
        omega
    · rintro _ rfl
      exact wOk_bad (s := v) (by simp) hbad
  have lt : (o.take c).length ≤ 12 := by rw [List.length_take]; omega
  refine EvE.bind (EvE.now (P := (· = [])) _ rfl) ?_
  rintro _ rfl
  refine EvE.bind (EvE.now (P := (· = o.take c)) _ rfl) ?_
  rintro _ rfl
  refine EvE.pos (by simp; omega) ?_
  refine EvE.bind (EvE.now (P := (· = o.take c)) _ (by simp)) ?_
  rintro _ rfl
  refine EvE.pos (by omega) ?_
  refine EvE.bind (bad _ (by decide) (by decide)) ?_
  rintro _ rfl
  refine EvE.neg (by decide) ?_
  refine EvE.bind (EvE.now (P := (· = [])) _ rfl) ?_
  rintro _ rfl
  refine EvE.bind (EvE.now (P := (· = o.take c)) _ rfl) ?_
  rintro _ rfl
  refine EvE.pos (by simp; omega) ?_
  refine EvE.bind (EvE.now (P := (· = o.take c)) _ (by simp)) ?_
  rintro _ rfl
  refine EvE.pos (by omega) ?_
  refine EvE.bind (bad _ (by decide) (by decide)) ?_
  rintro _ rfl
  exact EvE.now _ rfl

end Go.Proofs.Ytdjenclegglmfaa.Pure
