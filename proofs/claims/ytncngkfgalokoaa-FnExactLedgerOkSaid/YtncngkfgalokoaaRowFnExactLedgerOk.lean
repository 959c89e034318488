/- FnExactLedgerOk It has no conditions. -/
import Derived.Test.YtncngkfgalokoaaRows
import Derived.Test.YtncngkfgalokoaaPureFnExactLedgerOk
import Derived.WalkKit
import Derived.ProofKit
import Derived.OpenShut
import Derived.ShutString
import Derived.ChangeOld
import Derived.Below
import Derived.SizedLaws
import Derived.Lib.SmallJoins
import Derived.Deep.Strs
import Derived.Test.YtncngkfgalokoaaPbArg
import Derived.WideLaws
namespace Go.Proofs.Ytncngkfgalokoaa.fnExactLedgerOk
open Go.ChangeShapes Go.WideShapes Go.ChangeAt Go.RowKit Go.Joins Go.Deep
open Go.ChangeMaps (open_string shut_string)
open Go.Proofs.YtncngkfgalokoaaW.PrintWords
set_option linter.unusedVariables false
theorem own : ownKnob Try.prog.godebug = none := by kernel_rfl
theorem laidOut : laidOutB Try.prog = true := by kernel_rfl
set_option maxRecDepth 100000 in
theorem lifted (os : Os) (started : os.Started) (H : Type) (enc : TypeId × Value → H) :
    ReturnsInHanded {} Try.checked os 3 .any (Rows.fnExactLedgerOkSpec.pre6 enc Try.prog Try.f3 Rows.fnExactLedgerOkRow.domain false) (Rows.fnExactLedgerOkSpec.post enc Try.prog Try.f3 false true false false) := by
  refine returnsInHanded_of_change_sized (C := Try.checked) own started (by kernel_rfl) Try.func3
    (ChangeSpec.witness6 (enc := enc) (C := Try.checked) false ⟨#[], #[.agg #[.int .i64 0, .int .i64 0, .slice none 0 0]], []⟩ 8 (by kernel_rfl) (by kernel_rfl) (by kernel_rfl) (by kernel_rfl)) ?_
  intro W base args ds gs before hval0 hW hcnd hsz0 _
  have hsz : (DataW.weightsEach Try.prog (Try.f3.params.toList ++ Rows.fnExactLedgerOkSpec.plain.varTypes Try.prog) (ds ++ gs)).all (· ≤ reachBytes) = true := hsz0
  have hval : ∀ (j : Nat) t v, Try.f3.params[j]? = some t → args[j]? = some v → Value.okWide Try.prog W .any base t v := hval0
  have hW' := hW
  obtain ⟨p, q, hA0, hV, rfl, hfz, hnd⟩ := hW
  have hA : DataW.TrodAll enc Try.prog W 0 (fun _ => true) true Try.f3.params.toList args.toList ds p := hA0
  rw [Try.params3] at hA hval hsz
  obtain ⟨v0, vs0, d0, ds0, p0, q0, hargs, rfl, rfl, h0, r0⟩ := trodAll_cons hA
  obtain ⟨rfl, rfl, rfl⟩ := trodAll_nil r0
  obtain rfl : args = #[v0] := by cases args; simp_all
  obtain ⟨rfl, rfl⟩ := trodVars_none hV
  have k0 := h0
  have lt0 : ∀ x ∈ p0, x.block < W.heap.size := by obtain ⟨m, hm⟩ := k0; exact DataW.trod_lt m _ _ _ hm
  obtain ⟨cs, rfl, hsz0⟩ := okWide_struct Try.underlying26 (hval 0 26 v0 rfl rfl)
  obtain ⟨c0, c1, c2, rfl⟩ := array3 (hsz0.trans (show Try.prog.cellsOf 26 = 3 by kernel_rfl))
  obtain ⟨fuel, hf⟩ := h0
  obtain ⟨y0, y1, n, hx, _, hy0, hy1⟩ := trod_struct2 Try.underlying26 hf
  have z1 : Try.prog.cellsOf 3 = 1 := by kernel_rfl
  have z2 : Try.prog.cellsOf 23 = 2 := by kernel_rfl
  have z3 : Try.prog.cellsOf 24 = 1 := by kernel_rfl
  simp [Value.cells, z2, z3] at hy0 hy1
  obtain ⟨A0_2, c0_2, lq0, eq0, hc0, hm0, hq0⟩ := Go.Proofs.Ytncngkfgalokoaa.PbArg.pairs_arg Try.underlying24 Try.underlying23 z2 rfl rfl z1 z1 Try.underlying3 Try.underlying3 hy1
  obtain rfl := (List.cons.inj eq0).1
  cases n with
  | zero => simp [DataW.trod] at hy0
  | succ n =>
  obtain ⟨y3, y4, n2, hx2, _, hy3, hy4⟩ := trod_struct2 Try.underlying23 hy0
  simp [z1] at hy3 hy4
  obtain ⟨a0_0, e_, rfl, wa0_0⟩ := DataW.trod_int Try.underlying3 hy3
  simp only [List.cons.injEq, and_true] at e_
  subst e_
  obtain ⟨a0_1, e_, rfl, wa0_1⟩ := DataW.trod_int Try.underlying3 hy4
  simp only [List.cons.injEq, and_true] at e_
  subst e_
  obtain ⟨l0_2, hl0⟩ : ∃ l : List Go.Proofs.Ytncngkfgalokoaa.PFnExactLedgerOk.S23, l = lq0.map fun z => ⟨z.1, z.2⟩ := ⟨_, rfl⟩
  have ll0 : l0_2.length = lq0.length := by rw [hl0, List.length_map]
  have hr0 : Kd.C Go.Proofs.Ytncngkfgalokoaa.PFnExactLedgerOk.k23 W A0_2 l0_2.length l0_2 := by rw [hl0]; exact Go.Proofs.Ytncngkfgalokoaa.PbArg.pairs_row _ _ rfl (fun w z => Go.Proofs.Ytncngkfgalokoaa.PFnExactLedgerOk.k23_mk w _) hm0 hq0
  rw [← ll0] at hc0 hm0
  clear hA0 hval0 hsz0 hsz
  obtain ⟨k, hk⟩ := Go.Proofs.Ytncngkfgalokoaa.Pure.FnExactLedgerOk a0_0 a0_1 l0_2 hm0
  have hcalls := Go.Proofs.Ytncngkfgalokoaa.PFnExactLedgerOk.laws_FnExactLedgerOk.calls k a0_0 a0_1 A0_2 c0_2 l0_2 true W hr0 hc0 hk rfl
  rw [ll0] at hcalls
  refine hcalls.mono fun e W' ⟨he, bel⟩ => ?_
  subst he
  exact ⟨_, rfl, _, _, _, [], _, [], hW', trodAll_mk1 (shut_bool Try.underlying4 _), (trodAll_cons_mk (Below.trod laidOut (by kernel_rfl) (of_decide_eq_true (by kernel_rfl)) k0 bel lt0) trodAll_mk0), rfl, bel.frame _, fun h => by cases h⟩
theorem over : Rows.fnExactLedgerOkRow.holds Try.pinned (OpenSpec.ofChange Rows.fnExactLedgerOkSpec) :=
  OpenClaim.holds_of_wide 3 Try.f3 rfl rfl rfl rfl rfl rfl rfl ⟨rfl, rfl, rfl, rfl, rfl⟩ rfl rfl rfl rfl rfl (by kernel_rfl) Try.func3 (by kernel_rfl)
    (of_decide_eq_true (by kernel_rfl)) (by unfold Func.isWrapper; first | (rw [if_pos (by decide +kernel)]; kernel_rfl) | (rw [if_neg (by decide +kernel)]; exact ⟨rfl, rfl⟩))
    (fun os started H enc _ => lifted os started H enc)
theorem proved : Rows.FnExactLedgerOkSaid := over
#print axioms proved
end Go.Proofs.Ytncngkfgalokoaa.fnExactLedgerOk
namespace Go.Proofs.Ytncngkfgalokoaa
/-- The row, under a short name, for the claim. -/
theorem fnExactLedgerOk_holds : Rows.FnExactLedgerOkSaid := fnExactLedgerOk.proved
end Go.Proofs.Ytncngkfgalokoaa
