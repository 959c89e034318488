/- More noise is less often, none is beyond two; of a drawn number the noise is the reference's. It has no conditions. -/
import Derived.Test.YthmllnigphcpaaaPFnNoiseLessx2
import Derived.Test.YthmllnigphcpaaaPb
namespace Go.Proofs.Ythmllnigphcpaaa.Pure
open Go.RowKit Go.Proofs.Ythmllnigphcpaaa.PFnNoiseLess Go.Proofs.YthmllnigphcpaaaW.PrintWords Go.Proofs.YthmllnigphcpaaaW.PrintLast Go.Proofs.Ythmllnigphcpaaa.Pb
set_option linter.unusedVariables false
set_option linter.unusedSimpArgs false

theorem nz_range (n : Int) : -2 ≤ nz n ∧ nz n ≤ 2 := by
  unfold nz; split <;> (try split) <;> (try split) <;> (try split) <;> omega
def noi (n : Int) : Int := if 0 ≤ n ∧ n ≤ 30 then nz n else 0
theorem noi_range (n : Int) : -2 ≤ noi n ∧ noi n ≤ 2 := by
  unfold noi; split
  · exact nz_range n
  · omega
def sOk (s a : Int) : Bool := decide (0 ≤ s ∧ s ≤ 999 ∧ 0 ≤ a ∧ a ≤ 20)
theorem sOk_iff {s a : Int} : sOk s a = true ↔ (0 ≤ s ∧ s ≤ 999 ∧ 0 ≤ a ∧ a ≤ 20) := by simp [sOk]
def rAt (s a : Int) : Int := (s + 7 * (s / 31) + 11 * (a * a) + 26 * (a * (s % 31)) + 3 * a) % 31
theorem rAt_range (s a : Int) : 0 ≤ rAt s a ∧ rAt s a ≤ 30 := by unfold rAt; omega
def nBoth (a b i : Int) : Int := if sOk a i = true ∧ sOk b i = true then nz ((rAt a i + rAt b i) % 31) else 0
theorem nBoth_range (a b i : Int) : -2 ≤ nBoth a b i ∧ nBoth a b i ≤ 2 := by
  unfold nBoth; split
  · exact nz_range _
  · omega
def addAll (a b : Int) : List Int → Nat → List Int
  | [], _ => []
  | x :: xs, i => (x + nBoth a b (i : Int)) :: addAll a b xs (i + 1)
def inR (l : List Int) : Bool := l.all fun x => decide (0 ≤ x ∧ x ≤ 9999)
def nAdd (l : List Int) (a b : Int) : List Int × Bool := if (l.length ≤ 20 ∧ sOk a 0 = true ∧ sOk b 0 = true) ∧ inR l = true then (addAll a b l 0, true) else ([], false)
theorem addAll_get (a b : Int) (l : List Int) : ∀ i j, (addAll a b l i)[j]? = (l[j]?).map fun x => x + nBoth a b ((i + j : Nat) : Int) := by
  induction l with
  | nil => intro i j; simp [addAll]
  | cons x xs ih =>
    intro i j
    cases j with
    | zero => simp [addAll]
    | succ j =>
      simp only [addAll, List.getElem?_cons_succ]
      rw [ih (i + 1) j, show i + 1 + j = i + (j + 1) by omega]
theorem addAll_length (a b : Int) (l : List Int) : ∀ i, (addAll a b l i).length = l.length := by
  induction l with
  | nil => intro i; rfl
  | cons x xs ih => intro i; simp [addAll, ih]
theorem addAll_rd (a b : Int) {l : List Int} {j : Nat} (h : j < l.length) : rd (addAll a b l 0) (j : Int) = rd l (j : Int) + nBoth a b (j : Int) := by
  have := addAll_get a b l 0 j
  rw [List.getElem?_eq_getElem h, List.getElem?_eq_getElem (by rw [addAll_length]; exact h)] at this
  rw [rd_nat h, rd_nat (by rw [addAll_length]; exact h)]
  simpa using this
theorem nBoth_comm (a b i : Int) : nBoth b a i = nBoth a b i := by
  unfold nBoth
  by_cases h : sOk a i = true ∧ sOk b i = true
  · rw [if_pos h, if_pos ⟨h.2, h.1⟩, Int.add_comm]
  · rw [if_neg h, if_neg (fun e => h ⟨e.2, e.1⟩)]
theorem addAll_comm (a b : Int) (l : List Int) : ∀ i, addAll b a l i = addAll a b l i := by
  induction l with
  | nil => intro i; rfl
  | cons x xs ih => intro i; simp [addAll, ih, nBoth_comm a b]
theorem addAll_map (a b d : Int) (l : List Int) : ∀ i, addAll a b (l.map (· + d)) i = (addAll a b l i).map (· + d) := by
  induction l with
  | nil => intro i; rfl
  | cons x xs ih => intro i; simp [addAll, ih]; omega
theorem nAdd_comm (l : List Int) (a b : Int) : nAdd l b a = nAdd l a b := by
  unfold nAdd
  rw [addAll_comm]
  by_cases h : (l.length ≤ 20 ∧ sOk a 0 = true ∧ sOk b 0 = true) ∧ inR l = true
  · rw [if_pos h, if_pos ⟨⟨h.1.1, h.1.2.2, h.1.2.1⟩, h.2⟩]
  · rw [if_neg h, if_neg (fun e => h ⟨⟨e.1.1, e.1.2.2, e.1.2.1⟩, e.2⟩)]
theorem nAdd_length (l : List Int) (a b : Int) : (nAdd l a b).1.length ≤ 20 := by
  unfold nAdd
  split
  · have := addAll_length a b l 0
    dsimp only
    omega
  · simp
theorem nAdd_cases (l : List Int) (a b : Int) : nAdd l a b = ([], false) ∨ (nAdd l a b = (addAll a b l 0, true) ∧ (l.length ≤ 20 ∧ sOk a 0 = true ∧ sOk b 0 = true) ∧ inR l = true) := by
  unfold nAdd
  split
  · exact .inr ⟨rfl, ‹_›⟩
  · exact .inl rfl

theorem impl_NoiseMany_ok (v : Int) : EvE (fun _ => impl_NoiseMany.f v) (· = cnt v 31) := EvE.now _ rfl

theorem spec_l33Of_ok (n : Int) : EvE (fun _ => spec_l33Of.f n) (· = nz n) := by
  unfold spec_l33Of.f nz
  refine EvE.ite (fun h => EvE.now _ (by rw [if_pos (by omega)])) (fun h => ?_)
  refine EvE.ite (fun h2 => EvE.now _ (by rw [if_neg (by omega), if_pos (by omega)])) (fun h2 => ?_)
  refine EvE.ite (fun h3 => EvE.now _ (by rw [if_neg (by omega), if_neg (by omega), if_pos (by omega)])) (fun h3 => ?_)
  exact EvE.ite (fun h4 => EvE.now _ (by rw [if_neg (by omega), if_neg (by omega), if_neg (by omega), if_pos (by omega)])) (fun h4 => EvE.now _ (by rw [if_neg (by omega), if_neg (by omega), if_neg (by omega), if_neg (by omega)]))

theorem spec_l6In_ok (a b c : Int) : EvE (fun _ => spec_l6In.f a b c) (· = decide (b ≤ a ∧ a ≤ c)) := by
  unfold spec_l6In.f
  refine EvE.ite (fun h => EvE.now _ ?_) (fun h => EvE.now _ ?_)
  · have h : b ≤ a := h
    simp [h]
  · have h : ¬ b ≤ a := h
    simp [h]

theorem spec_FieldOk_ok (n : Int) : EvE (fun _ => spec_FieldOk.f n) (· = decide (0 ≤ n ∧ n ≤ 30)) := by
  unfold spec_FieldOk.f
  exact EvE.tail (spec_l6In_ok n 0 30)

theorem spec_NoiseOf_ok (n : Int) : EvE (fun _ => spec_NoiseOf.f n) (· = noi n) := by
  unfold spec_NoiseOf.f
  refine EvE.bind (spec_FieldOk_ok n) ?_
  rintro _ rfl
  unfold noi
  refine EvE.ite (fun h => ?_) (fun h => EvE.now _ (by rw [if_neg]; simpa using h))
  rw [if_pos (by simpa using h)]
  exact EvE.tail (spec_l33Of_ok n)

theorem impl_NoiseOf_ok (n : Int) : EvE (fun _ => impl_NoiseOf.f n) (· = noi n) := EvE.now _ rfl

theorem spec_l6Open_ok {l : List Int} (h : ∀ x ∈ l, (Lit.int .u8 x).wf = true) : EvE (fun _ => spec_l6Open.f l) (fun r => ∃ s, r = (s, 0) ∧ Coded s) := by
  have h := u8_range h
  unfold spec_l6Open.f
  refine EvE.ite (fun h1 => EvE.pos (by omega) (EvE.now _ ⟨_, rfl, fun x hx => h x (List.mem_of_mem_take hx), ?_⟩)) (fun h1 => EvE.now _ ⟨_, rfl, h, by omega⟩)
  rw [List.length_take]; omega

theorem spec_l6Rd_pick_ok {s : List Int} (hs : Coded s) (p n : Int) (h0 : 0 ≤ p) (h1 : p ≤ 1000000) (hn : 1 ≤ n) (hn' : n ≤ 1000000) :
    EvE (fun k => spec_l6Rd_pick.f k s p n) (fun r => ∃ v, r = (v, p + 1) ∧ 0 ≤ v ∧ v < n) := by
  unfold spec_l6Rd_pick.f
  rw [w64 (x := p + 1) (by omega) (by omega)]
  refine EvE.neg (by omega) (EvE.succ ?_)
  simp only [spec_l6Rd_pick.j0]
  have e : wrap64 (p + 1 - 1) = p := by rw [w64 (by omega) (by omega)]; omega
  rw [e]
  have rg := rd_range hs.1
  have hl := hs.2
  refine EvE.ite (fun _ => EvE.now _ ⟨0, rfl, by omega, by omega⟩) (fun hz => ?_)
  have hpos : 1 ≤ (s.length : Int) := by
    have : s.length ≠ 0 := by simpa using hz
    omega
  refine EvE.ite (fun hlt => EvE.pos h0 (EvE.neg (by omega) (EvE.now _ ?_))) (fun hge => ?_)
  · have := rg p
    rw [w64 (x := rd s p) (by omega) (by omega)]
    exact ⟨_, rfl, tmod_range (by omega) hn⟩
  · refine EvE.neg (by omega) ?_
    have t1 := tmod_range (a := p) (n := (s.length : Int)) h0 hpos
    have e1 : wrap64 (p * 7) = p * 7 := w64 (by omega) (by omega)
    have e2 : wrap64 (p * 7 + 3) = p * 7 + 3 := w64 (by omega) (by omega)
    rw [e1, e2]
    have t2 := tmod_range (a := p * 7 + 3) (n := (s.length : Int)) (by omega) hpos
    refine EvE.pos t1.1 (EvE.pos t1.2 (EvE.pos t2.1 (EvE.pos t2.2 (EvE.neg (by omega) (EvE.now _ ?_)))))
    have r1 := rg (Int.tmod p s.length)
    have r2 := rg (Int.tmod (p * 7 + 3) s.length)
    generalize rd s (Int.tmod p s.length) = A at *
    generalize rd s (Int.tmod (p * 7 + 3) s.length) = B at *
    have dq : 0 ≤ Int.tdiv p s.length ∧ Int.tdiv p s.length ≤ p := by
      rw [Int.tdiv_eq_ediv_of_nonneg h0]
      exact ⟨Int.ediv_nonneg h0 (by omega), Int.ediv_le_self _ h0⟩
    generalize Int.tdiv p s.length = Q at *
    rw [w64 (x := A) (by omega) (by omega), w64 (x := B) (by omega) (by omega), w64 (x := A * 131) (by omega) (by omega), w64 (x := B * 1117) (by omega) (by omega), w64 (x := p * 29) (by omega) (by omega), w64 (x := Q) (by omega) (by omega), w64 (x := Q * 53) (by omega) (by omega), w64 (x := A * 131 + B * 1117) (by omega) (by omega), w64 (x := A * 131 + B * 1117 + p * 29) (by omega) (by omega), w64 (x := A * 131 + B * 1117 + p * 29 + Q * 53) (by omega) (by omega)]
    have hX : 0 ≤ A * 131 + B * 1117 + p * 29 + Q * 53 ∧ A * 131 + B * 1117 + p * 29 + Q * 53 < 1000000000000 := by omega
    generalize A * 131 + B * 1117 + p * 29 + Q * 53 = X at *
    have e3 : wrap64 (Int.tdiv X 64) = X / 64 := by
      rw [Int.tdiv_eq_ediv_of_nonneg hX.1]
      exact w64 (by omega) (by omega)
    rw [e3]
    have hx := xor_nonneg (a := X) (b := X / 64) (by omega) (by omega) (by omega) (by omega)
    exact ⟨_, rfl, tmod_range hx.1 hn⟩

theorem spec_l91Num_ok {s : List Int} (hs : Coded s) (p : Int) (h0 : 0 ≤ p) (h1 : p ≤ 900000) : EvE (fun k => spec_l91Num.f k s p) (fun r => ∃ a q, r = (a, q) ∧ p ≤ q ∧ q ≤ p + 5 ∧ -1 ≤ a ∧ a ≤ 31) := by
  unfold spec_l91Num.f
  refine EvE.bind (spec_l6Rd_pick_ok hs p 10 h0 (by omega) (by omega) (by omega)) ?_
  rintro _ ⟨a, rfl, ha, ha'⟩
  dsimp only
  have last : ∀ q : Int, p ≤ q → q ≤ p + 4 → EvE (fun k => (spec_l6Rd_pick.f k s q 31).bind fun bt126 => (some (bt126.1, bt126.2))) (fun r => ∃ a q, r = (a, q) ∧ p ≤ q ∧ q ≤ p + 5 ∧ -1 ≤ a ∧ a ≤ 31) := by
    intro q hq hq'
    refine EvE.bind (spec_l6Rd_pick_ok hs _ 31 (by omega) (by omega) (by omega) (by omega)) ?_
    rintro _ ⟨b, rfl, hb, hb'⟩
    exact EvE.now _ ⟨_, _, rfl, by omega, by omega, by omega, by omega⟩
  refine EvE.ite (fun _ => EvE.now _ ⟨_, _, rfl, by omega, by omega, by omega, by omega⟩) (fun _ => ?_)
  refine EvE.ite (fun _ => ?_) (fun _ => ?_)
  · refine EvE.bind (EvE.now (P := fun r => r = [1, 30]) _ rfl) ?_
    rintro _ rfl
    refine EvE.bind (spec_l6Rd_pick_ok hs _ 2 (by omega) (by omega) (by omega) (by omega)) ?_
    rintro _ ⟨b, rfl, hb, hb'⟩
    dsimp only
    refine EvE.pos hb (EvE.pos (by simp; omega) (EvE.now _ ⟨_, _, rfl, by omega, by omega, ?_⟩))
    have : b = 0 ∨ b = 1 := by omega
    rcases this with rfl | rfl <;> simp [rd]
  · refine EvE.ite (fun _ => ?_) (fun _ => last _ (by omega) (by omega))
    refine EvE.bind (spec_l6Rd_pick_ok hs _ 5 (by omega) (by omega) (by omega) (by omega)) ?_
    rintro _ ⟨b, rfl, hb, hb'⟩
    dsimp only
    refine EvE.ite (fun _ => ?_) (fun _ => last _ (by omega) (by omega))
    refine EvE.bind (EvE.now (P := fun r => r = [-1, 31]) _ rfl) ?_
    rintro _ rfl
    refine EvE.bind (spec_l6Rd_pick_ok hs _ 2 (by omega) (by omega) (by omega) (by omega)) ?_
    rintro _ ⟨c, rfl, hc, hc'⟩
    dsimp only
    refine EvE.pos hc (EvE.pos (by simp; omega) (EvE.now _ ⟨_, _, rfl, by omega, by omega, ?_⟩))
    have : c = 0 ∨ c = 1 := by omega
    rcases this with rfl | rfl <;> simp [rd]

theorem spec_DrawNoiseOf_ok {l : List Int} (h : ∀ x ∈ l, (Lit.int .u8 x).wf = true) : EvE (fun k => spec_DrawNoiseOf.f k l) (fun _ => True) := by
  unfold spec_DrawNoiseOf.f
  refine EvE.bind (spec_l6Open_ok h) ?_
  rintro _ ⟨s, rfl, hs⟩
  dsimp only
  refine EvE.bind (spec_l91Num_ok hs 0 (by omega) (by omega)) ?_
  rintro _ ⟨a, q, rfl, _⟩
  exact EvE.now _ trivial

theorem FnNoiseLess : laws_FnNoiseLess.Pure := by
  intro l _ _ hw
  refine EvE.rounds ?_
  unfold laws_FnNoiseLess.f
  refine EvE.ite (fun _ => EvE.now _ rfl) (fun _ => ?_)
  refine EvE.bind (spec_DrawNoiseOf_ok hw) ?_
  rintro v _
  refine EvE.bind (impl_NoiseOf_ok v) ?_
  rintro _ rfl
  refine EvE.bind (spec_NoiseOf_ok v) ?_
  rintro _ rfl
  have hr := noi_range v
  refine EvE.pos (by trivial) (EvE.pos (by omega) (EvE.pos (by omega) ?_))
  refine EvE.bind (impl_NoiseMany_ok _) ?_
  rintro _ rfl
  refine EvE.bind (impl_NoiseMany_ok _) ?_
  rintro _ rfl
  refine EvE.pos (by decide) ?_
  refine EvE.bind (impl_NoiseMany_ok _) ?_
  rintro _ rfl
  refine EvE.bind (impl_NoiseMany_ok _) ?_
  rintro _ rfl
  refine EvE.pos (by decide) ?_
  refine EvE.bind (impl_NoiseMany_ok _) ?_
  rintro _ rfl
  exact EvE.now _ (by decide)

end Go.Proofs.Ythmllnigphcpaaa.Pure
