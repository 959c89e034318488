/- What the library's variables read as, from call to call (the table of powers of ten, MaxLen, ErrSyntax, ErrRange), and strconv.Itoa, strconv.Atoi, strings.Cut, strings.Split under it; the text of a fraction. It has no conditions of its own. -/
import Derived.Test.YthcbichnjgkjiaaDoorWWords
import Derived.Test.YthcbichnjgkjiaaDoorWLast
import Derived.Test.YthcbichnjgkjiaaDoorWMore
import Derived.Test.YthcbichnjgkjiaaDoorShelf
import Derived.Lib.AppendIntMem
import Derived.Lib.SmallJoins
namespace Go.Proofs.YthcbichnjgkjiaaDoorW.PrintWords
open Go.RowKit Go.Proofs.YthcbichnjgkjiaaDoorW.PrintLast Go.Proofs.YthcbichnjgkjiaaDoorW.PrintMore
set_option linter.unusedVariables false
set_option linter.unusedSimpArgs false
/-- The library's variables that the walk reads. -/
structure Env (w : World) : Prop where
  tab : Lib.TabIs Tryd.prog w "internal/strconv.uint64pow10" .u64 Lib.pow10Tab
  mx : ∃ m, w.cell? ⟨0, 0, none⟩ = some (.int .i64 m)
  es : ∃ t p, w.cell? ⟨1, 0, none⟩ = some (.iface t p)
  er : ∃ t p, w.cell? ⟨2, 0, none⟩ = some (.iface t p)
theorem cell_below {w w' : World} {a : Addr} {v : Value} (h : w.cell? a = some v) (hb : Below w.heap.size w w') : w'.cell? a = some v := by
  have hl := World.block_lt_of_cell? w a h
  have e := hb.block a.block hl
  unfold World.cell? at h ⊢
  rw [e]
  exact h
theorem Env.below {w w' : World} (h : Env w) (hb : Below w.heap.size w w') : Env w' :=
  ⟨Lib.tabBelow_of_tabIs h.tab w' hb, h.mx.elim fun m e => ⟨m, cell_below e hb⟩, h.es.elim fun t e => e.elim fun p e => ⟨t, p, cell_below e hb⟩, h.er.elim fun t e => e.elim fun p e => ⟨t, p, cell_below e hb⟩⟩
theorem itoa_calls (n : Int) (h0 : 0 ≤ n) (h1 : n ≤ 99999) (w : World) (hE : Env w) :
    Calls Tryd.prog 38 #[.int .i64 n] w fun e w' => e = .returned (.string ⟨(Lib.itoa n).toArray⟩) ∧ Below w.heap.size w w' := by
  refine (Tryd.strconv_Itoa n (by omega) (by omega) w hE.tab).mono ?_
  rintro e w' ⟨rfl, k, os, rfl⟩
  exact ⟨rfl, Lib.below_grow _ _ (Nat.le_refl _) k os⟩
theorem atoi_yes (s : ByteArray) (hs : s.size ≤ 4294967280) (v : Int) (h : Lib.atoiAll s.data.toList = .ok v) (w : World) :
    Calls Tryd.prog 45 #[.string s] w fun e w' => e = .returned (.tuple #[.int .i64 v, .nilIface]) ∧ Below w.heap.size w w' := by
  refine (Tryd.strconv_Atoi_ok s (by omega) v h w).mono ?_
  rintro e w' ⟨rfl, rfl | ⟨t, rfl⟩⟩
  · exact ⟨rfl, Below.refl _ _⟩
  · exact ⟨rfl, bytes_below (Below.refl _ _) (Nat.le_refl _) _ _⟩
theorem atoi_no (s : ByteArray) (hs : s.size ≤ 4294967280) (h : ∀ v, Lib.atoiAll s.data.toList ≠ .ok v) (w : World) (hE : Env w) :
    Calls Tryd.prog 45 #[.string s] w fun e w' => ∃ v N, e = .returned (.tuple #[.int .i64 v, .iface 87 (.pointer (some ⟨N, 0, none⟩))]) ∧ Below w.heap.size w w' := by
  rcases hx : Lib.atoiAll s.data.toList with v | _ | _
  · exact absurd hx (h v)
  · obtain ⟨t, p, he⟩ := hE.es
    refine (Go.Proofs.Any.strconv_Atoi_syntax Tryd.laysC172 s (by omega) hx _ w he (.inr ⟨t, p, rfl⟩)).mono ?_
    rintro e w' ⟨N, rfl, _, _, hb⟩
    exact ⟨_, N, rfl, hb⟩
  · obtain ⟨t, p, he⟩ := hE.er
    refine (Tryd.strconv_Atoi_range s (by omega) hx _ w he (.inr ⟨t, p, rfl⟩)).mono ?_
    rintro e w' ⟨N, rfl, _, _, hb⟩
    exact ⟨_, N, rfl, hb⟩
theorem cut_calls (s sep : ByteArray) (hs : s.size ≤ 4294967280) (w : World) (hE : Env w) :
    Calls Tryd.prog 44 #[.string s, .string sep] w fun e w' => e = .returned (.tuple #[.string ⟨(Lib.cut s.data.toList sep.data.toList).1.toArray⟩, .string ⟨(Lib.cut s.data.toList sep.data.toList).2.1.toArray⟩, .bool (Lib.cut s.data.toList sep.data.toList).2.2]) ∧ Below w.heap.size w w' := by
  obtain ⟨m, hm⟩ := hE.mx
  refine (Tryd.strings_Cut s sep m w (by omega) hm).mono ?_
  rintro e w' ⟨rfl, n, rfl⟩
  exact ⟨rfl, pw_below_drewN (Below.refl _ _) n⟩
def fracTxt (n d : Int) : ByteArray := ⟨(Lib.itoa n ++ 47 :: Lib.itoa d).toArray⟩
theorem f_cell {w : World} {b : Nat} {cs : Array Value} {T : TypeId} {fr : Nat × Nat} (hb : w.heap[b]? = some (.cells cs T fr)) (j : Nat) : w.cell? ⟨b, j, none⟩ = cs[j]? := by simp [World.cell?, hb]
theorem f_new (w : World) (A : Obj) : (w.alloc A).heap[w.heap.size]? = some A := by
  show (w.heap.push _)[w.heap.size]? = _
  rw [Array.getElem?_push, if_pos rfl]
theorem f_lt {w : World} {g : Nat} {o : Obj} (hg : w.heap[g]? = some o) : g < w.heap.size := (Array.getElem?_eq_some_iff.1 hg).1
theorem decDigits_short (u : Nat) (h : u ≤ 99999) : (Lib.decDigits u).length ≤ 5 := by
  rw [Lib.decDigits_length]
  have e1 : ∀ v, v < 10 → Lib.nDigits v = 1 := fun v h => Lib.nDigits_small h
  have e2 : ∀ v, ¬ v < 10 → Lib.nDigits v = Lib.nDigits (v / 10) + 1 := fun v h => by rw [Lib.nDigits, dif_neg h]
  have step : ∀ m v, v < 10 ^ (m + 1) → Lib.nDigits v ≤ m + 1 := by
    intro m
    induction m with
    | zero => intro v hv; rw [e1 v (by simpa using hv)]; omega
    | succ m ih =>
      intro v hv
      by_cases h10 : v < 10
      · rw [e1 v h10]; omega
      · rw [e2 v h10]
        have := ih (v / 10) (by rw [Nat.div_lt_iff_lt_mul (by omega)]; rw [Nat.pow_succ] at hv; omega)
        omega
  exact step 4 u (by omega)
theorem itoa_short (n : Int) (h0 : 0 ≤ n) (h1 : n ≤ 99999) : (Lib.itoa n).length ≤ 5 := by
  obtain ⟨u, rfl⟩ := Int.eq_ofNat_of_zero_le h0
  rw [Lib.itoa_nonneg]
  exact decDigits_short u (by omega)
theorem fracTxt_eq (n d : Int) : ((⟨(Lib.itoa n).toArray⟩ : ByteArray) ++ ⟨#[47]⟩) ++ ⟨(Lib.itoa d).toArray⟩ = fracTxt n d := by
  apply ByteArray.ext
  apply Array.ext'
  simp [fracTxt]
theorem text_calls (n d : Int) (hn : 0 ≤ n ∧ n ≤ 999) (hd : 0 ≤ d ∧ d ≤ 999) (w : World) (hE : Env w) :
    Calls Tryd.prog 34 #[.agg #[.int .i64 n, .int .i64 d]] w fun e w' => e = .returned (.string (fracTxt n d)) ∧ Below w.heap.size w w' := by
  have hb0 : Below w.heap.size w (w.alloc (.cells #[.int .i64 n, .int .i64 d] 25)) := (Below.refl _ w).alloc (Nat.le_refl _) _
  have HB0 := Go.Lib.hid hb0
  have hN := itoa_short n (by omega) (by omega)
  have hD := itoa_short d (by omega) (by omega)
  have hI := fun (W : World) (h : Below w.heap.size w W) => itoa_calls n (by omega) (by omega) W (Env.below hE h)
  have hJ := fun (W : World) (h : Below w.heap.size w W) => itoa_calls d (by omega) (by omega) W (Env.below hE h)
  rw [← fracTxt_eq]
  have sN : (⟨(Lib.itoa n).toArray⟩ : ByteArray).size ≤ 5 := by simpa [ByteArray.size] using hN
  have sD : (⟨(Lib.itoa d).toArray⟩ : ByteArray).size ≤ 5 := by simpa [ByteArray.size] using hD
  generalize (⟨(Lib.itoa n).toArray⟩ : ByteArray) = tn at *
  generalize (⟨(Lib.itoa d).toArray⟩ : ByteArray) = td at *
  have g1 : (9223372036854775807 < tn.size + 1) = False := eq_false (by omega)
  have g2 : (9223372036854775807 < tn.size + 1 + td.size) = False := eq_false (by omega)
  have HI := Go.Lib.hid hI
  have HJ := Go.Lib.hid hJ
  have hbx : (w.alloc (.cells #[.int .i64 n, .int .i64 d] 25)).heap[w.heap.size]? = some (.cells #[.int .i64 n, .int .i64 d] 25 (0, 0)) := f_new w _
  have HBX := Go.Lib.hid hbx
  clear hE hb0 hI hJ hN hD sN sD hbx hn hd
  go_enter Tryd.func34, Tryd.ntmps34
  go_wp2
  go_region_with (first | (go_at_call 38; (with_reducible refine (HI.out _ ?qb).mono ?_); (case qb => first | exact HB0.out | exact below_drew HB0.out | exact pw_below_drewN HB0.out _); rintro e w4 ⟨rfl, hb4⟩; have hbw := (show Below w.heap.size w w4 from below_then (by with_reducible first | exact HB0.out | exact below_drew HB0.out | exact pw_below_drewN HB0.out _) (by simp) hb4); have hb4' := (hb4.block w.heap.size (f_lt HBX.out)).trans HBX.out; have x1 := f_cell hb4' 1; have HBW := Go.Lib.hid hbw; clear hb4 hbw hb4') | (go_at_call 38; (with_reducible refine (HJ.out _ ?qb).mono ?_); (case qb => first | exact HBW.out | exact below_drew HBW.out | exact pw_below_drewN HBW.out _); rintro e w5 ⟨rfl, hb5⟩; have hbz := (show Below w.heap.size w w5 from below_then (by with_reducible first | exact HBW.out | exact below_drew HBW.out | exact pw_below_drewN HBW.out _) (by have := HBW.out.size; simp; omega) hb5); have HBZ := Go.Lib.hid hbz; clear hb5 hbz))
  all_goals go_wp2
  all_goals go_ret
  all_goals exact ⟨rfl, HBZ.out⟩
end Go.Proofs.YthcbichnjgkjiaaDoorW.PrintWords
