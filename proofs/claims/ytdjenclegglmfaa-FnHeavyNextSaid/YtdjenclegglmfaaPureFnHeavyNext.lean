/- Each drawn beginning goes on in two ways, with a and with b, as the reference says. It has no conditions. -/
import Derived.Test.YtdjenclegglmfaaPFnHeavyNextx3
import Derived.Test.YtdjenclegglmfaaPb
namespace Go.Proofs.Ytdjenclegglmfaa.Pure
open Go.RowKit Go.Proofs.Ytdjenclegglmfaa.PFnHeavyNext Go.Proofs.YtdjenclegglmfaaW.PrintWords Go.Proofs.YtdjenclegglmfaaW.PrintLast Go.Proofs.Ytdjenclegglmfaa.Pb
set_option linter.unusedVariables false
set_option linter.unusedSimpArgs false

theorem byte_eq {c : UInt8} {n : Nat} (hn : n < 256) : ((c.toNat : Int) = (n : Int)) ↔ c = UInt8.ofNat n := by
  constructor
  · intro h
    apply UInt8.toNat_inj.1
    rw [UInt8.toNat_ofNat']
    omega
  · rintro rfl
    rw [UInt8.toNat_ofNat']
    omega
theorem byte_97 {c : UInt8} : ((c.toNat : Int) = 97) ↔ c = 97 := byte_eq (n := 97) (by omega)
theorem byte_98 {c : UInt8} : ((c.toNat : Int) = 98) ↔ c = 98 := byte_eq (n := 98) (by omega)
theorem bytes_drop {s : ByteArray} {i : Nat} (h : i < s.size) : s.data.toList.drop i = s.data.toList.getD i 0 :: s.data.toList.drop (i + 1) := by
  have h2 : i < s.data.toList.length := by simpa using h
  rw [List.getD_eq_getElem?_getD, List.getElem?_eq_getElem h2, Option.getD_some]
  exact List.drop_eq_getElem_cons h2
def Bound (l : List ByteArray) : Prop := l.length ≤ 1125899906842624 ∧ ∀ s ∈ l, s.size ≤ 140737488351232

def hOk (l : List ByteArray) : Bool := decide ((l.length : Int) ≤ 12) && l.all fun s => !badH s
theorem hOk_any (l : List ByteArray) : hOk l = (decide ((l.length : Int) ≤ 12) && !l.any badH) := by
  unfold hOk
  rw [List.not_any_eq_all_not]
def nextOf : List ByteArray → List ByteArray
  | [] => []
  | s :: ss => (s ++ (⟨#[97]⟩ : ByteArray)) :: (s ++ (⟨#[98]⟩ : ByteArray)) :: nextOf ss
theorem nextOf_length (l : List ByteArray) : (nextOf l).length = 2 * l.length := by
  induction l with
  | nil => rfl
  | cons s ss ih => simp [nextOf, ih]; omega
def hNext (l : List ByteArray) : List ByteArray := if hOk l = true then nextOf l else []
theorem hNext_length (l : List ByteArray) : (hNext l).length ≤ 24 := by
  unfold hNext
  split
  · have h : hOk l = true := ‹_›
    unfold hOk at h
    rw [Bool.and_eq_true] at h
    have := of_decide_eq_true h.1
    rw [nextOf_length]
    omega
  · simp

theorem spec_l6Open_ok {l : List Int} (h : ∀ x ∈ l, (Lit.int .u8 x).wf = true) : EvE (fun _ => spec_l6Open.f l) (fun r => ∃ s, r = (s, 0) ∧ Coded s) := by
  have h := u8_range h
  unfold spec_l6Open.f
  refine EvE.ite (fun h1 => EvE.pos (by omega) (EvE.now _ ⟨_, rfl, fun x hx => h x (List.mem_of_mem_take hx), ?_⟩)) (fun h1 => EvE.now _ ⟨_, rfl, h, by omega⟩)
  rw [List.length_take]; omega

theorem spec_l6Rd_pick_ok {s : List Int} (hs : Coded s) (p n : Int) (h0 : 0 ≤ p) (h1 : p ≤ 1000000) (hn : 1 ≤ n) (hn' : n ≤ 1000000) :
    EvE (fun k => spec_l6Rd_pick.f k s p n) (fun r => ∃ v, r = (v, p + 1) ∧ 0 ≤ v ∧ v < n) := by
  unfold spec_l6Rd_pick.f
  rw [w64 (x := p + 1) (by omega) (by omega)]
  refine EvE.neg (by omega) (EvE.succ ?_)
  simp only [spec_l6Rd_pick.j0]
  have e : wrap64 (p + 1 - 1) = p := by rw [w64 (by omega) (by omega)]; omega
  rw [e]
  have rg := rd_range hs.1
  have hl := hs.2
  refine EvE.ite (fun _ => EvE.now _ ⟨0, rfl, by omega, by omega⟩) (fun hz => ?_)
  have hpos : 1 ≤ (s.length : Int) := by
    have : s.length ≠ 0 := by simpa using hz
    omega
  refine EvE.ite (fun hlt => EvE.pos h0 (EvE.neg (by omega) (EvE.now _ ?_))) (fun hge => ?_)
  · have := rg p
    rw [w64 (x := rd s p) (by omega) (by omega)]
    exact ⟨_, rfl, tmod_range (by omega) hn⟩
  · refine EvE.neg (by omega) ?_
    have t1 := tmod_range (a := p) (n := (s.length : Int)) h0 hpos
    have e1 : wrap64 (p * 7) = p * 7 := w64 (by omega) (by omega)
    have e2 : wrap64 (p * 7 + 3) = p * 7 + 3 := w64 (by omega) (by omega)
    rw [e1, e2]
    have t2 := tmod_range (a := p * 7 + 3) (n := (s.length : Int)) (by omega) hpos
    refine EvE.pos t1.1 (EvE.pos t1.2 (EvE.pos t2.1 (EvE.pos t2.2 (EvE.neg (by omega) (EvE.now _ ?_)))))
    have r1 := rg (Int.tmod p s.length)
    have r2 := rg (Int.tmod (p * 7 + 3) s.length)
    generalize rd s (Int.tmod p s.length) = A at *
    generalize rd s (Int.tmod (p * 7 + 3) s.length) = B at *
    have dq : 0 ≤ Int.tdiv p s.length ∧ Int.tdiv p s.length ≤ p := by
      rw [Int.tdiv_eq_ediv_of_nonneg h0]
      exact ⟨Int.ediv_nonneg h0 (by omega), Int.ediv_le_self _ h0⟩
    generalize Int.tdiv p s.length = Q at *
    rw [w64 (x := A) (by omega) (by omega), w64 (x := B) (by omega) (by omega), w64 (x := A * 131) (by omega) (by omega), w64 (x := B * 1117) (by omega) (by omega), w64 (x := p * 29) (by omega) (by omega), w64 (x := Q) (by omega) (by omega), w64 (x := Q * 53) (by omega) (by omega), w64 (x := A * 131 + B * 1117) (by omega) (by omega), w64 (x := A * 131 + B * 1117 + p * 29) (by omega) (by omega), w64 (x := A * 131 + B * 1117 + p * 29 + Q * 53) (by omega) (by omega)]
    have hX : 0 ≤ A * 131 + B * 1117 + p * 29 + Q * 53 ∧ A * 131 + B * 1117 + p * 29 + Q * 53 < 1000000000000 := by omega
    generalize A * 131 + B * 1117 + p * 29 + Q * 53 = X at *
    have e3 : wrap64 (Int.tdiv X 64) = X / 64 := by
      rw [Int.tdiv_eq_ediv_of_nonneg hX.1]
      exact w64 (by omega) (by omega)
    rw [e3]
    have hx := xor_nonneg (a := X) (b := X / 64) (by omega) (by omega) (by omega) (by omega)
    exact ⟨_, rfl, tmod_range hx.1 hn⟩

theorem spec_DrawHeavyNext_ok {l : List Int} (h : ∀ x ∈ l, (Lit.int .u8 x).wf = true) : EvE (fun k => spec_DrawHeavyNext.f k l) (fun o => o.length ≤ 12 ∧ ∀ x ∈ o, x.size ≤ 4) := by
  unfold spec_DrawHeavyNext.f
  refine EvE.bind (spec_l6Open_ok h) ?_
  rintro _ ⟨s, rfl, hs⟩
  dsimp only
  refine EvE.bind (EvE.now (P := fun r => r = _) _ rfl) ?_
  rintro _ rfl
  refine EvE.bind (spec_l6Rd_pick_ok hs _ 6 (by omega) (by omega) (by omega) (by omega)) ?_
  rintro _ ⟨i, rfl, hi, hi'⟩
  dsimp only
  refine EvE.pos hi (EvE.pos (by simp; omega) (EvE.now _ ?_))
  have hi2 : i = 0 ∨ i = 1 ∨ i = 2 ∨ i = 3 ∨ i = 4 ∨ i = 5 := by omega
  rcases hi2 with rfl | rfl | rfl | rfl | rfl | rfl <;> decide

theorem impl_HeavyNext_loop (l : List ByteArray) (hb : Bound l) (hl : l.length ≤ 12) (m : Nat) : ∀ (i : Nat) (out : List ByteArray), i + m = l.length → out.length ≤ 2 * i → EvE (fun k => impl_HeavyNext.l0 k out l (l.length : Int) (i : Int)) (· = out ++ nextOf (l.drop i)) := by
  induction m with
  | zero =>
    intro i out hi ho
    refine EvE.succ ?_
    simp only [impl_HeavyNext.l0]
    refine EvE.neg (by omega) (EvE.now _ ?_)
    rw [List.drop_of_length_le (by omega)]
    simp [nextOf]
  | succ m ih =>
    intro i out hi ho
    have hs := hb.2 _ (mem_ro ByteArray.empty (xs := l) (i := i) (by omega))
    refine EvE.succ ?_
    simp only [impl_HeavyNext.l0]
    refine EvE.pos (by omega) (EvE.pos (by omega) (EvE.pos (by omega) (EvE.pos (by omega) ?_)))
    refine EvE.bind (EvE.now (P := fun r => r = _) _ rfl) ?_
    rintro _ rfl
    refine EvE.pos (by simp; omega) ?_
    rw [w64 (x := (i : Int) + 1) (by omega) (by omega), drop_ro ByteArray.empty (xs := l) (i := i) (by omega)]
    refine (ih (i + 1) _ (by omega) (by simp; omega)).mono ?_
    rintro _ rfl
    simp [nextOf]
theorem impl_HeavyNext_ok (l : List ByteArray) (hb : Bound l) : EvE (fun k => impl_HeavyNext.f k l) (· = hNext l) := by
  have no : ¬ hOk l = true → EvE (fun k => impl_HeavyNext.j0 k l true) (· = hNext l) := fun h => by
    refine EvE.succ ?_
    simp only [impl_HeavyNext.j0]
    unfold hNext
    exact EvE.pos (by trivial) (EvE.now _ (by rw [if_neg h]))
  have hh := hOk_any l
  unfold impl_HeavyNext.f impl_HeavyNext_1.f
  rw [if_pos hb.2]
  refine EvE.ite (fun h => no (fun e => by rw [hh, Bool.and_eq_true] at e; have := of_decide_eq_true e.1; omega)) (fun h => ?_)
  refine EvE.bind (EvE.now (P := (· = l.any badH)) _ rfl) ?_
  rintro _ rfl
  cases h2 : l.any badH
  · have h3 : hOk l = true := by
      rw [hh, h2, decide_eq_true (show (l.length : Int) ≤ 12 by omega)]; rfl
    refine EvE.succ ?_
    simp only [impl_HeavyNext.j0]
    rw [w64 (x := 2 * (l.length : Int)) (by omega) (by omega)]
    refine EvE.neg (by decide) (EvE.pos (by omega) (EvE.pos (by omega) ?_))
    unfold hNext
    rw [if_pos h3]
    simpa using impl_HeavyNext_loop l hb (by omega) l.length 0 [] (by omega) (by simp)
  · exact no (fun e => by rw [hh, h2, Bool.and_eq_true] at e; exact absurd e.2 (by decide))

theorem laws_loTexts_loop (l : List ByteArray) (hb : l.length ≤ 1125899906842624) (m : Nat) : ∀ i : Nat, i + m = l.length → EvE (fun k => laws_loTexts.l0 k l l (i : Int)) (· = true) := by
  induction m with
  | zero =>
    intro i hi
    refine EvE.succ ?_
    simp only [laws_loTexts.l0]
    exact EvE.neg (by omega) (EvE.now _ rfl)
  | succ m ih =>
    intro i hi
    refine EvE.succ ?_
    simp only [laws_loTexts.l0]
    refine EvE.pos (by omega) (EvE.pos (by omega) (EvE.pos (by omega) (EvE.pos (by trivial) ?_)))
    rw [w64 (x := (i : Int) + 1) (by omega) (by omega)]
    exact ih (i + 1) (by omega)
theorem laws_loTexts_ok (l : List ByteArray) (hb : l.length ≤ 1125899906842624) : EvE (fun k => laws_loTexts.f k l l) (· = true) := by
  unfold laws_loTexts.f
  exact EvE.pos (by trivial) (laws_loTexts_loop l hb l.length 0 (by omega))

theorem spec_l41Head_loop (s : ByteArray) (hs : s.size ≤ 140737488351232) (m : Nat) : ∀ i : Nat, i + m = s.size → EvE (fun k => spec_l41Head.l0 k s (i : Int)) (· = ((s.data.toList.drop i).all ab && decide ((s.size : Int) ≤ 3))) := by
  induction m with
  | zero =>
    intro i hi
    refine EvE.succ ?_
    simp only [spec_l41Head.l0]
    refine EvE.neg (by omega) (EvE.now _ ?_)
    rw [List.drop_of_length_le (by simp; omega)]
    rfl
  | succ m ih =>
    intro i hi
    have h := ih (i + 1) (by omega)
    refine EvE.succ ?_
    simp only [spec_l41Head.l0]
    refine EvE.pos (by omega) (EvE.pos (by omega) ?_)
    rw [bt_nat (by omega), w64 (x := (i : Int) + 1) (by omega) (by omega), bytes_drop (by omega)]
    generalize s.data.toList.getD i 0 = c
    refine EvE.ite (fun e => ?_) (fun e => EvE.ite (fun e2 => ?_) (fun e2 => EvE.now _ ?_))
    · have e := byte_97.1 e
      subst e
      exact h
    · have e2 := byte_98.1 e2
      subst e2
      exact h
    · have f1 : ¬ c = 97 := fun x => e (byte_97.2 x)
      have f2 : ¬ c = 98 := fun x => e2 (byte_98.2 x)
      simp [ab, f1, f2]
theorem spec_l41Head_ok (s : ByteArray) (hs : s.size ≤ 140737488351232) : EvE (fun k => spec_l41Head.f k s) (· = pfx s 3) := by
  exact spec_l41Head_loop s hs s.size 0 (by omega)

theorem spec_l41Heads_loop (l : List ByteArray) (hb : Bound l) (m : Nat) : ∀ i : Nat, i + m = l.length → EvE (fun k => spec_l41Heads.l0 k l (i : Int)) (· = (decide ((l.length : Int) ≤ 12) && (l.drop i).all fun s => !badH s)) := by
  have hl := hb.1
  induction m with
  | zero =>
    intro i hi
    refine EvE.succ ?_
    simp only [spec_l41Heads.l0]
    refine EvE.neg (by omega) (EvE.now _ ?_)
    rw [List.drop_of_length_le (by omega)]
    simp
  | succ m ih =>
    intro i hi
    have h := ih (i + 1) (by omega)
    have hs := hb.2 _ (mem_ro ByteArray.empty (xs := l) (i := i) (by omega))
    refine EvE.succ ?_
    simp only [spec_l41Heads.l0]
    refine EvE.pos (by omega) (EvE.pos (by omega) ?_)
    rw [w64 (x := (i : Int) + 1) (by omega) (by omega), drop_ro ByteArray.empty (xs := l) (i := i) (by omega)]
    generalize rdOf ByteArray.empty l (i : Int) = s at *
    refine EvE.bind (spec_l41Head_ok s hs) ?_
    rintro _ rfl
    have e3 : badH s = !(s.data.toList.all ab && decide ((s.size : Int) ≤ 2)) := rfl
    refine EvE.ite (fun e2 => EvE.ite (fun e => EvE.now _ ?_) (fun e => ?_)) (fun e2 => EvE.now _ ?_)
    · have : badH s = true := by rw [e3, show decide ((s.size : Int) ≤ 2) = false by simp; omega]; simp
      simp [this]
    · have e4 : s.data.toList.all ab = true := by unfold pfx at e2; rw [Bool.and_eq_true] at e2; exact e2.1
      have : badH s = false := by rw [e3, e4, show decide ((s.size : Int) ≤ 2) = true by simp; omega]; rfl
      simpa [this] using h
    · have : badH s = true := by
        rw [e3]
        cases hx : s.data.toList.all ab
        · rfl
        · rw [show decide ((s.size : Int) ≤ 2) = false by
            unfold pfx at e2
            rw [hx] at e2
            simp at e2 ⊢
            omega]
          rfl
      simp [this]
theorem spec_l41Heads_ok (l : List ByteArray) (hb : Bound l) : EvE (fun k => spec_l41Heads.f k l) (· = hOk l) := by
  exact spec_l41Heads_loop l hb l.length 0 (by omega)

theorem spec_HeavyNext_loop (l : List ByteArray) (hb : Bound l) (hl : l.length ≤ 12) (m : Nat) : ∀ (i : Nat) (out : List ByteArray), i + m = l.length → out.length ≤ 2 * i → EvE (fun k => spec_HeavyNext.l0 k l out (i : Int)) (· = out ++ nextOf (l.drop i)) := by
  induction m with
  | zero =>
    intro i out hi ho
    refine EvE.succ ?_
    simp only [spec_HeavyNext.l0]
    refine EvE.neg (by omega) (EvE.now _ ?_)
    rw [List.drop_of_length_le (by omega)]
    simp [nextOf]
  | succ m ih =>
    intro i out hi ho
    have hs := hb.2 _ (mem_ro ByteArray.empty (xs := l) (i := i) (by omega))
    refine EvE.succ ?_
    simp only [spec_HeavyNext.l0]
    refine EvE.pos (by omega) (EvE.pos (by omega) (EvE.pos (by omega) ?_))
    refine EvE.bind (EvE.now (P := fun r => r = _) _ rfl) ?_
    rintro _ rfl
    refine EvE.pos (by simp; omega) ?_
    rw [w64 (x := (i : Int) + 1) (by omega) (by omega), drop_ro ByteArray.empty (xs := l) (i := i) (by omega)]
    refine (ih (i + 1) _ (by omega) (by simp; omega)).mono ?_
    rintro _ rfl
    simp [nextOf]
theorem spec_HeavyNext_ok (l : List ByteArray) (hb : Bound l) : EvE (fun k => spec_HeavyNext.f k l) (· = hNext l) := by
  unfold spec_HeavyNext.f hNext
  refine EvE.bind (EvE.now (P := (· = [])) _ rfl) ?_
  rintro _ rfl
  refine EvE.bind (spec_l41Heads_ok l hb) ?_
  rintro _ rfl
  refine EvE.ite (fun h => ?_) (fun h => EvE.now _ (by rw [if_neg h]))
  have h12 : l.length ≤ 12 := by
    unfold hOk at h
    rw [Bool.and_eq_true] at h
    have := of_decide_eq_true h.1
    omega
  rw [if_pos h]
  simpa using spec_HeavyNext_loop l hb h12 l.length 0 [] (by omega) (by simp)

theorem nextOf_rd (l : List ByteArray) : ∀ i : Nat, i < l.length → (nextOf l)[2 * i]? = some (rdOf ByteArray.empty l (i : Int) ++ (⟨#[97]⟩ : ByteArray)) ∧ (nextOf l)[2 * i + 1]? = some (rdOf ByteArray.empty l (i : Int) ++ (⟨#[98]⟩ : ByteArray)) := by
  induction l with
  | nil => intro i hi; simp at hi
  | cons s ss ih =>
    intro i hi
    cases i with
    | zero => simp [nextOf, rdOf]
    | succ i =>
      have h := ih i (by simpa using hi)
      have e : rdOf ByteArray.empty (s :: ss) ((i + 1 : Nat) : Int) = rdOf ByteArray.empty ss (i : Int) := by simp [rdOf]
      rw [e]
      simp only [nextOf]
      rw [show 2 * (i + 1) = 2 * i + 1 + 1 by omega, show 2 * i + 1 + 1 + 1 = (2 * i + 1) + 1 + 1 by omega]
      simp only [List.getElem?_cons_succ]
      exact h
theorem HeavyNext_loop (l : List ByteArray) (hb : Bound l) (hl : l.length ≤ 12) (m : Nat) : ∀ i : Nat, i + m = l.length → EvE (fun k => laws_FnHeavyNext.l0 k l (nextOf l) (i : Int)) (· = true) := by
  have hn := nextOf_length l
  induction m with
  | zero =>
    intro i hi
    refine EvE.succ ?_
    simp only [laws_FnHeavyNext.l0]
    refine EvE.neg (by omega) (EvE.now _ ?_)
    rw [w64 (by omega) (by omega), hn]
    simp
  | succ m ih =>
    intro i hi
    obtain ⟨h1, h2⟩ := nextOf_rd l i (by omega)
    have hs := hb.2 _ (mem_ro ByteArray.empty (xs := l) (i := i) (by omega))
    have e1 : wrap64 (2 * (i : Int)) = ((2 * i : Nat) : Int) := by rw [w64 (by omega) (by omega)]; omega
    have e2 : wrap64 (((2 * i : Nat) : Int) + 1) = ((2 * i + 1 : Nat) : Int) := by rw [w64 (by omega) (by omega)]; omega
    have r1 : rdOf ByteArray.empty (nextOf l) ((2 * i : Nat) : Int) = rdOf ByteArray.empty l (i : Int) ++ (⟨#[97]⟩ : ByteArray) := by
      have hlt : 2 * i < (nextOf l).length := by omega
      rw [ro_nat hlt]
      rw [List.getElem?_eq_getElem hlt] at h1
      exact Option.some.inj h1
    have r2 : rdOf ByteArray.empty (nextOf l) ((2 * i + 1 : Nat) : Int) = rdOf ByteArray.empty l (i : Int) ++ (⟨#[98]⟩ : ByteArray) := by
      have hlt : 2 * i + 1 < (nextOf l).length := by omega
      rw [ro_nat hlt]
      rw [List.getElem?_eq_getElem hlt] at h2
      exact Option.some.inj h2
    refine EvE.succ ?_
    simp only [laws_FnHeavyNext.l0]
    rw [e1, e2, r1, r2, w64 (x := (i : Int) + 1) (by omega) (by omega)]
    exact EvE.pos (by omega) (EvE.pos (by omega) (EvE.pos (by omega) (EvE.pos (by omega) (EvE.pos (by omega) (EvE.pos (by trivial) (EvE.pos (by omega) (EvE.pos (by omega) (EvE.pos (by trivial) (ih (i + 1) (by omega))))))))))
theorem FnHeavyNext : laws_FnHeavyNext.Pure := by
  intro l _ _ hw
  refine EvE.rounds ?_
  unfold laws_FnHeavyNext.f
  refine EvE.ite (fun _ => EvE.now _ rfl) (fun _ => ?_)
  refine EvE.bind (spec_DrawHeavyNext_ok hw) ?_
  rintro o ⟨ho, hx⟩
  have hb : Bound o := ⟨by omega, fun s hs => by have := hx s hs; omega⟩
  have hn := hNext_length o
  refine EvE.bind (impl_HeavyNext_ok o hb) ?_
  rintro _ rfl
  refine EvE.bind (spec_HeavyNext_ok o hb) ?_
  rintro _ rfl
  refine EvE.bind (laws_loTexts_ok _ (by omega)) ?_
  rintro _ rfl
  refine EvE.pos (by trivial) (EvE.succ ?_)
  simp only [laws_FnHeavyNext.j0]
  refine EvE.ite (fun _ => ?_) (fun h => ?_)
  · refine EvE.bind (spec_HeavyNext_ok o hb) ?_
    rintro _ rfl
    refine EvE.tail ?_
    exact laws_loTexts_ok _ (by omega)
  · unfold hNext at h ⊢
    by_cases hc : hOk o = true
    · rw [if_pos hc]
      exact HeavyNext_loop o hb ho o.length 0 (by omega)
    · rw [if_neg hc] at h
      exact absurd rfl h

end Go.Proofs.Ytdjenclegglmfaa.Pure
