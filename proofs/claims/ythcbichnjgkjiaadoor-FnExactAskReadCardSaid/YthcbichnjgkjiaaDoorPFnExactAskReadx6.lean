-- Written by a program of this session over the kit's printer, with contracts proved by hand; Lean checks it.
import Derived.Test.YthcbichnjgkjiaaDoorPFnExactAskReadx0
namespace Go.Proofs.YthcbichnjgkjiaaDoor.PFnExactAskRead
open Go.RowKit Go.Proofs.YthcbichnjgkjiaaDoorW.PrintWords Go.Proofs.YthcbichnjgkjiaaDoorW.PrintLast Go.Proofs.YthcbichnjgkjiaaDoorW.PrintMore
attribute [local go_sem] max2_int min2_int max_two min_two max_three min_three max_four min_four   -- for this text's walks alone
set_option linter.unusedVariables false
set_option linter.unusedSimpArgs false

/-! ### spec_l42Cut: function 53 -/
-- The numbers of functions and types are those of the seat of the texts.
def cutStep (at_ : Int) (o : List ByteArray) (c : UInt8) : List ByteArray := if (c.toNat : Int) = at_ then o ++ [⟨#[]⟩] else o.set (o.length - 1) (o.getD (o.length - 1) ByteArray.empty ++ ⟨#[c]⟩)
def cutL (at_ : Int) (l : List UInt8) : List ByteArray := l.foldl (cutStep at_) [⟨#[]⟩]
theorem cutL_snoc (at_ : Int) (l : List UInt8) (c : UInt8) : cutL at_ (l ++ [c]) = cutStep at_ (cutL at_ l) c := by
  unfold cutL
  rw [List.foldl_append]
  rfl
theorem cutStep_len (at_ : Int) (o : List ByteArray) (c : UInt8) (h : 0 < o.length) : 0 < (cutStep at_ o c).length ∧ (cutStep at_ o c).length ≤ o.length + 1 := by
  unfold cutStep
  split <;> simp <;> omega
theorem cutStep_sizes (at_ : Int) (o : List ByteArray) (c : UInt8) (n : Nat) (h : ∀ x ∈ o, x.size ≤ n) : ∀ x ∈ cutStep at_ o c, x.size ≤ n + 1 := by
  intro x hx
  unfold cutStep at hx
  split at hx
  · rcases List.mem_append.1 hx with hx | hx
    · have := h x hx; omega
    · rw [List.mem_singleton] at hx; rw [hx]; exact Nat.zero_le _
  · rcases List.mem_or_eq_of_mem_set hx with hx | rfl
    · have := h x hx; omega
    · rw [ByteArray.size_append]
      have h1 : (o.getD (o.length - 1) ByteArray.empty).size ≤ n := by
        rw [List.getD_eq_getElem?_getD]
        cases hg : o[o.length - 1]? with
        | none => exact Nat.zero_le _
        | some y => exact h y (List.mem_of_getElem? hg)
      have h2 : (⟨#[c]⟩ : ByteArray).size = 1 := rfl
      omega
theorem cut_facts (at_ : Int) (l : List UInt8) : ∀ (o : List ByteArray) (n : Nat), 0 < o.length → (∀ x ∈ o, x.size ≤ n) → 0 < (l.foldl (cutStep at_) o).length ∧ (l.foldl (cutStep at_) o).length ≤ o.length + l.length ∧ ∀ x ∈ l.foldl (cutStep at_) o, x.size ≤ n + l.length := by
  induction l with
  | nil => exact fun o n h1 h2 => ⟨h1, Nat.le_refl _, h2⟩
  | cons c l ih =>
    intro o n h1 h2
    have a := cutStep_len at_ o c h1
    have b := ih (cutStep at_ o c) (n + 1) a.1 (cutStep_sizes at_ o c n h2)
    rw [List.foldl_cons, List.length_cons]
    exact ⟨b.1, by omega, fun x hx => by have := b.2.2 x hx; omega⟩
theorem cutL_facts (at_ : Int) (l : List UInt8) : 0 < (cutL at_ l).length ∧ (cutL at_ l).length ≤ 1 + l.length ∧ ∀ x ∈ cutL at_ l, x.size ≤ 0 + l.length :=
  cut_facts at_ l [⟨#[]⟩] 0 (by decide) (fun x hx => by rw [List.mem_singleton] at hx; rw [hx]; exact Nat.le_refl _)
def spec_l42Cut.f (a0 : ByteArray) (a1 : Int) : Option (List ByteArray) := if a0.size ≤ 1000000000 then some (cutL a1 a0.data.toList) else none
set_option maxHeartbeats 2000000 in
theorem spec_l42Cut.calls (a0 : ByteArray) (a1 : Int) (r : List ByteArray) (w : World) (h : spec_l42Cut.f a0 a1 = some r) :
    Calls Tryd.prog 53 #[.string a0, .int .u8 a1] w fun e w' => ∃ v0_ : Value, e = .returned (v0_) ∧ Kd.R Kd.string 9 w' w.heap.size (fun _ => True) v0_ r ∧ Below w.heap.size w w' := by
  unfold spec_l42Cut.f at h
  split at h
  case isFalse => cases h
  rename_i hs
  obtain rfl := Option.some.inj h
  clear h
  have hlen : a0.data.toList.length = a0.size := rfl
  have HB := Go.Lib.hid (Below.refl w.heap.size w)
  go_enter Tryd.func53, Tryd.ntmps53
  go_wp2_with ((with_reducible refine gate_dst (N := 7) rfl ?_); refine Kd.R_lit Kd.string _ 9 ?hg (N := 7) ?hd (xs := ([(⟨#[]⟩ : ByteArray)] : List ByteArray)) (inner := [.string (⟨#[]⟩ : ByteArray)]) (ok := fun _ => True) (okp := fun _ => True) ?hr ?hp (fun _ hk => hk) trivial (Below.refl _ _) (Nat.le_refl _) (by simp) ?_; (case hd => rfl); (case hg => rfl); (case hr => first | (go_simp; done) | (go_simp; rfl)); (case hp => exact (Reps.one (show Kd.M Kd.string _ _ _ (⟨#[]⟩ : ByteArray) [.string (⟨#[]⟩ : ByteArray)] from rfl) (Reps.none _ _))); intro v7 w1 ho hb hg_ hnew_; clear hg_ hnew_)
  go_loopw [5, 6] (fun v5 v6 W => ∃ i : Int, 0 ≤ i ∧ i ≤ (a0.size : Int) ∧ v6 = .int .i64 i ∧ Kd.R Kd.string 9 W w.heap.size (fun _ => True) v5 (cutL a1 (a0.data.toList.take i.toNat)) ∧ Below w.heap.size w W) (fun _ v6 _ => a0.size - (intOf v6).toNat)
  case atStart => exact ⟨0, by omega, by omega, rfl, ho, hb⟩
  case round =>
    obtain ⟨i, h0, hi, rfl, hR, hB⟩ := hrel
    obtain ⟨f1, f2, f3⟩ := cutL_facts a1 (a0.data.toList.take i.toNat)
    rw [List.length_take] at f2
    have HR := Go.Lib.hid hR
    have HB := Go.Lib.hid hB
    by_cases hlt : i < (a0.size : Int)
    · have htk : a0.data.toList.take (i.toNat + 1) = a0.data.toList.take i.toNat ++ [a0.data.toList.getD i.toNat 0] := by
        rw [List.getD_eq_getElem?_getD, List.getElem?_eq_getElem (by omega), Option.getD_some, List.take_append_getElem (by omega)]
      have hbt : bt a0 i = ((a0.data.toList.getD i.toNat 0).toNat : Int) := by
        have := bt_at a0 i (by omega)
        rw [← this, List.getD_eq_getElem?_getD, List.getElem?_eq_getElem (by omega)]
        rfl
      have hnx := cutL_snoc a1 (a0.data.toList.take i.toNat) (a0.data.toList.getD i.toNat 0)
      rw [← htk] at hnx
      generalize a0.data.toList.getD i.toNat 0 = c at hnx hbt
      have hi1 : (wrap64 (i + 1)).toNat = i.toNat + 1 ∧ 0 ≤ wrap64 (i + 1) ∧ wrap64 (i + 1) ≤ (a0.size : Int) := by
        have : wrap64 (i + 1) = i + 1 := by unfold wrap64; omega
        omega
      rw [← hi1.1] at hnx
      clear htk
      have HX := Go.Lib.hid hnx
      have HI := Go.Lib.hid hi1
      generalize cutL a1 (a0.data.toList.take i.toNat) = L at *
      clear hnx hi1
      have c1 : decide (i < (a0.size : Int)) = true := decide_eq_true hlt
      have c2 : decide ((0 : Int) ≤ i) = true := decide_eq_true h0
      have p6 : ((0 : Int) ≤ i) = True := eq_true (by omega)
      have q6 : (i < (a0.size : Int)) = True := eq_true (by omega)
      have hx6 := bt_at a0 i
      obtain ⟨g, co, eo, hge, hgl, _⟩ := Kd.R_form hR f1
      have HGE := Go.Lib.hid hge
      clear hR hB ho hb hge hlen
      subst eo
      have hms : L.length ≤ 1000000001 := by omega
      have HLT := Go.Lib.hid hlt
      have HF := Go.Lib.hid f3
      have HBT := Go.Lib.hid hbt
      clear hlt h0 hi f2 hbt
      by_cases hc : bt a0 i = a1
      · have hc1 : (bt a0 i == a1) = true := by simpa using hc
        have HC := Go.Lib.hid hc
        clear hc
        go_wp2_with ((with_reducible refine gate_dst (N := 21) rfl ?_); refine Kd.R_append Kd.string w.heap.size rfl (.tmp 19) (.tmp 20) 37 9 (.string ⟨#[]⟩) 16 rfl Tryd.underlying37 info9 rfl (by decide) (by omega) (.slice (some ⟨g, 0, none⟩) L.length co) L (⟨#[]⟩ : ByteArray) [.string (⟨#[]⟩ : ByteArray)] (fun _ => True) (fun _ => False) rfl rfl ?aP (fun _ hk => hk.elim) ?aF ?aO HB.out ?aS ?aL ?_; (case aP => exact rfl); (case aF => exact (fun k_ hk => trivial)); (case aO => exact HR.out); (case aS => exact HB.out.size); (case aL => omega); intro v126 w13 ho hb hg hat)
        refine ⟨⟨wrap64 (i + 1), HI.out.2.1, HI.out.2.2, rfl, ?_, hb⟩, ?_⟩
        · rw [HX.out]
          unfold cutStep
          rw [if_pos (HBT.out.symm.trans HC.out)]
          exact ho
        · have := HI.out.1
          have := HLT.out
          have := p6
          simp only [intOf]
          simp only [eq_iff_iff, iff_true] at this
          omega
      · have hc1 : (bt a0 i == a1) = false := by simpa using hc
        have HC := Go.Lib.hid hc
        obtain ⟨j, hj⟩ : ∃ j : Int, j = (L.length : Int) - 1 := ⟨_, rfl⟩
        have hwj : IntKind.i64.wrap ((L.length : Int) - 1) = j := by
          rw [hj]
          rw [i64_w]
          unfold wrap64
          omega
        have pj : (0 : Int) ≤ j := by omega
        have qj : j < (L.length : Int) := by omega
        obtain ⟨hcell, hfz⟩ := Kd.R_celln (⟨#[]⟩ : ByteArray) HR.out j pj qj
        have hrd : rdOf (⟨#[]⟩ : ByteArray) L j = L.getD (L.length - 1) ByteArray.empty := by
          unfold rdOf
          congr 1
          omega
        rw [hrd] at hcell
        have hls : (L.getD (L.length - 1) ByteArray.empty).size ≤ 1000000000 := by
          rw [List.getD_eq_getElem?_getD, List.getElem?_eq_getElem (by omega)]
          have := HF.out _ (List.getElem_mem (l := L) (n := L.length - 1) (by omega))
          rw [List.length_take] at this
          have e : a0.data.toList.length = a0.size := rfl
          exact Nat.le_trans this (by omega)
        have HJ := Go.Lib.hid hj
        obtain ⟨last, hla⟩ : ∃ last, last = L.getD (L.length - 1) ByteArray.empty := ⟨_, rfl⟩
        rw [← hla] at hcell hls hrd
        have HLA := Go.Lib.hid hla
        clear hla
        have hcat : (9223372036854775807 < last.size + 1) = False := eq_false (by omega)
        have hst : strOfNums [bt a0 i] = ⟨#[c]⟩ := by
          rw [HBT.out]
          simp [strOfNums]
        have hcv : ∀ (W : World) (b : Nat), W.cell? ⟨b, 0, none⟩ = some (.int .u8 (bt a0 i)) → (convert 35 9 (.slice (some ⟨b, 0, none⟩) 1 1)).run Tryd.prog W = .ok (.string ⟨#[c]⟩) W := fun W b h => by
          rw [← hst]
          exact string_of_reads Tryd.underlying35 Tryd.underlying5 Tryd.underlying9 ⟨rfl, by decide, fun _ => ⟨_, rfl, fun j hj => by
            obtain rfl : j = 0 := by omega
            exact h⟩⟩
        clear hc hj hrd hls f1 f3 hms hst
        go_wp2
        go_region
        have hR2 : Kd.R Kd.string 9 ((wr.setCell ⟨g, j.toNat, none⟩ (.string (last ++ ⟨#[c]⟩))).alloc (.cells #[.int .u8 (bt a0 i)] 5)).drew w.heap.size (fun _ => True) (.slice (some ⟨g, 0, none⟩) L.length co) (L.set j.toNat (last ++ ⟨#[c]⟩)) := by
          apply Kd.R_drew
          apply Kd.R_alloc
          exact Kd.R_putn HR.out j (last ++ ⟨#[c]⟩)
        have hB2 : Below w.heap.size w ((wr.setCell ⟨g, j.toNat, none⟩ (.string (last ++ ⟨#[c]⟩))).alloc (.cells #[.int .u8 (bt a0 i)] 5)).drew := by
          apply below_drew1
          apply below_alloc
          exact HB.out.setCell (p := ⟨g, j.toNat, none⟩) HGE.out _
        generalize ((wr.setCell ⟨g, j.toNat, none⟩ (.string (last ++ ⟨#[c]⟩))).alloc (.cells #[.int .u8 (bt a0 i)] 5)).drew = w2 at hR2 hB2 ⊢
        clear hcell hfz hcv
        go_wp2
        refine ⟨⟨wrap64 (i + 1), HI.out.2.1, HI.out.2.2, rfl, ?_, hB2⟩, ?_⟩
        · rw [HX.out]
          unfold cutStep
          rw [if_neg (fun e => HC.out (HBT.out.trans e)), ← HLA.out]
          have e : j.toNat = L.length - 1 := by have := HJ.out; omega
          rw [← e]
          exact hR2
        · have := HI.out.1
          have := HLT.out
          have := p6
          simp only [intOf]
          simp only [eq_iff_iff, iff_true] at this
          omega
    · have c1 : decide (i < (a0.size : Int)) = false := decide_eq_false hlt
      rw [show i.toNat = a0.data.toList.length by omega, List.take_length] at hR
      go_wp2
      go_ret
      exact ⟨_, rfl, hR, HB.out⟩

end Go.Proofs.YthcbichnjgkjiaaDoor.PFnExactAskRead
