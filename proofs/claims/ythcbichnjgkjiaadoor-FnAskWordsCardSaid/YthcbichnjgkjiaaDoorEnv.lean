/- What the library's table of powers of ten reads as, from call to call; strconv.Itoa under it. It has no conditions of its own. -/
import Derived.Test.YthcbichnjgkjiaaDoorWWords
import Derived.Test.YthcbichnjgkjiaaDoorShelf
import Derived.Lib.AppendIntMem
namespace Go.Proofs.YthcbichnjgkjiaaDoorW.PrintWords
open Go.RowKit
/-- The table of powers of ten reads as its initialiser lays it. -/
structure Env (w : World) : Prop where
  tab : Lib.TabIs Tryd.prog w "internal/strconv.uint64pow10" .u64 Lib.pow10Tab
theorem Env.below {w w' : World} (h : Env w) (hb : Below w.heap.size w w') : Env w' := ⟨Lib.tabBelow_of_tabIs h.tab w' hb⟩
theorem itoa_calls (n : Int) (h0 : 0 ≤ n) (h1 : n ≤ 99999) (w : World) (hE : Env w) :
    Calls Tryd.prog 38 #[.int .i64 n] w fun e w' => e = .returned (.string ⟨(Lib.itoa n).toArray⟩) ∧ Below w.heap.size w w' := by
  refine (Tryd.strconv_Itoa n (by omega) (by omega) w hE.tab).mono ?_
  rintro e w' ⟨rfl, k, os, rfl⟩
  exact ⟨rfl, Lib.below_grow _ _ (Nat.le_refl _) k os⟩
end Go.Proofs.YthcbichnjgkjiaaDoorW.PrintWords
