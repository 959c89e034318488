-- Written by a program of this session over the kit's printer, with contracts proved by hand; Lean checks it.
import Derived.Test.YtdjenclegglmfaaPFnHeavyStepsx0
import Derived.Test.YtdjenclegglmfaaPFnHeavyStepsx1
import Derived.Test.YtdjenclegglmfaaPFnHeavyStepsx2
namespace Go.Proofs.Ytdjenclegglmfaa.PFnHeavySteps
open Go.RowKit Go.Proofs.YtdjenclegglmfaaW.PrintWords Go.Proofs.YtdjenclegglmfaaW.PrintLast Go.Proofs.YtdjenclegglmfaaW.PrintMore
attribute [local go_sem] max2_int min2_int max_two min_two max_three min_three max_four min_four   -- for this text's walks alone
set_option linter.unusedVariables false
set_option linter.unusedSimpArgs false

/-! ### impl_HeavyStep: function 34 -/
-- The numbers of functions and types are those of the seat of the heavy group.
theorem few_calls (s : ByteArray) (w : World) (hs : s.size ≤ 140737488351232) {B : Nat} {m c : Pre → Nat} (hT : Tree w B m c) (ha : s.data.toList.all ab = true) (bt bn : Nat) (need : Int)
    (h1 : w.heap[bt]? = some (.cells #[.pointer (some ⟨m [], 0, none⟩)] 53 (0, 0))) (h2 : w.heap[bn]? = some (.cells #[.int .i64 need] 3 (0, 0))) :
    Calls Try.prog 56 #[.string s, .pointer (some ⟨bt, 0, none⟩), .pointer (some ⟨bn, 0, none⟩)] w fun e w' => e = .returned (.bool (decide ((c s.data.toList : Int) < need))) ∧ Below w.heap.size w w' := by
  have hc1 : w.cell? ⟨bt, 0, none⟩ = some (.pointer (some ⟨m [], 0, none⟩)) := h_cell h1 0
  have hlt := lt_heap h2
  have hcount := fun W => count_calls s W hs (B := B) (m := m) (c := c)
  have HCO := Go.Lib.hid hcount
  have HT := Go.Lib.hid hT
  have HA := Go.Lib.hid ha
  have H2 := Go.Lib.hid h2
  clear hcount hT ha h1 h2
  have hc2 : w.cell? ⟨bn, 0, none⟩ = some (.int .i64 need) := h_cell H2.out 0
  go_enter Try.func56, Try.ntmps56
  go_wp2
  go_region_with (go_at_call 53; refine (HCO.out _ (HT.out.below (Nat.le_refl _) (by repeat (first | exact Below.refl _ _ | apply pw_below_drewN | apply below_drew1))) HA.out).mono ?_; rintro e w' ⟨rfl, hb⟩; have hc3 : w'.cell? ⟨bn, 0, none⟩ = some (.int .i64 need) := h_cell ((hb.block _ hlt).trans H2.out) 0; have hbw := (show Below w.heap.size w w' from Below.trans (by repeat (first | exact Below.refl _ _ | apply pw_below_drewN | apply below_drew1)) hb))
  all_goals (go_wp2; go_ret; exact ⟨rfl, hbw⟩)
theorem take_s (l : List ByteArray) {k : Nat} (h : k < l.length) : l.take (k + 1) = l.take k ++ [l.getD k ByteArray.empty] := by
  rw [List.getD_eq_getElem?_getD, List.getElem?_eq_getElem h, Option.getD_some, List.take_append_getElem h]
theorem mem_s (l : List ByteArray) {k : Nat} (h : k < l.length) : l.getD k ByteArray.empty ∈ l := by
  rw [List.getD_eq_getElem?_getD, List.getElem?_eq_getElem h, Option.getD_some]
  exact List.getElem_mem h
theorem cur_s {cur : Array Value} {l : List ByteArray} (hc : cur.toList.take l.length = l.map .string) {k : Nat} (h : k < l.length) : cur[k]? = some (.string (l.getD k ByteArray.empty)) := by
  have h2 := congrArg (fun x => x[k]?) hc
  simp only [List.getElem?_take, List.getElem?_map] at h2
  rw [if_pos h] at h2
  rw [← Array.getElem?_toList, h2, List.getD_eq_getElem?_getD, List.getElem?_eq_getElem h]
  rfl
def firstBad (del : ByteArray → Bool) (l : List ByteArray) : Int := if l.any del = true then ((l.takeWhile fun s => !del s).length : Nat) else -1
theorem firstBad_at {del : ByteArray → Bool} {l : List ByteArray} {k : Nat} (hk : k < l.length) (h1 : (l.take k).any del = false) (h2 : del (l.getD k ByteArray.empty) = true) : firstBad del l = (k : Nat) := by
  unfold firstBad
  rw [if_pos (List.any_eq_true.2 ⟨_, mem_s l hk, h2⟩)]
  congr 1
  induction l generalizing k with
  | nil => simp at hk
  | cons x xs ih =>
    cases k with
    | zero => simp at h2; simp [h2]
    | succ k =>
      simp at h1
      have hx : del x = false := by simpa using h1.1
      rw [List.takeWhile_cons, hx]
      simp only [Bool.not_false, if_true, List.length_cons]
      congr 1
      exact ih (by simpa using hk) (by simpa using h1.2) (by simpa using h2)
set_option maxHeartbeats 1000000 in
theorem idx_calls (pt pn : Value) (g cap : Nat) (l : List ByteArray) (cur : Array Value) (w : World) (hh : w.heap[g]? = some (.cells cur 9 (0, 0))) (hcur : cur.toList.take l.length = l.map .string) (hl : l.length ≤ 100) (del : ByteArray → Bool)
    (hd : ∀ W s, s ∈ l → Below g w W → Calls Try.prog 56 #[.string s, pt, pn] W fun e w' => e = .returned (.bool (del s)) ∧ Below W.heap.size W w') :
    Calls Try.prog 57 #[.slice (some ⟨g, 0, none⟩) l.length cap, .func (.func 56) #[] #[pt, pn]] w fun e w' => e = .returned (.int .i64 (firstBad del l)) ∧ Below w.heap.size w w' := by
  have hlt := lt_heap hh
  have HH := Go.Lib.hid hh
  have HC := Go.Lib.hid hcur
  have HD := Go.Lib.hid hd
  clear hh hcur hd
  go_enter Try.func57, Try.ntmps57
  go_wp2
  go_loopw [8] (fun v8 W => ∃ k : Nat, k ≤ l.length ∧ v8 = .int .i64 k ∧ (l.take k).any del = false ∧ Below w.heap.size w W) (fun v8 _ => l.length - (intOf v8).toNat)
  case atStart => exact ⟨0, by omega, rfl, by simp, Below.refl _ _⟩
  case round =>
    obtain ⟨k, hk, rfl, hall, hb⟩ := hrel
    have HA := Go.Lib.hid hall
    clear hall
    by_cases hkt : k < l.length
    · have hc : wr.cell? ⟨g, k, none⟩ = some (.string (l.getD k ByteArray.empty)) := by
        rw [h_cell ((hb.block g hlt).trans HH.out) k]
        exact cur_s HC.out hkt
      have HT := Go.Lib.hid (take_s l hkt)
      have HF := Go.Lib.hid (firstBad_at (del := del) hkt HA.out)
      have hcall := fun W hW => HD.out W _ (mem_s l hkt) hW
      generalize l.getD k ByteArray.empty = s at *
      cases hp : del s
      · rw [hp] at hcall
        have HP := Go.Lib.hid hp
        have HCA := Go.Lib.hid hcall
        clear hp hcall
        go_wp2_with (go_at_call 56; refine (HCA.out _ (hb.mono (by omega))).mono ?_; rintro e w' ⟨rfl, hb2⟩)
        go_roundw
        case rel => exact ⟨k + 1, by omega, by go_num, by rw [HT.out, List.any_append, HA.out]; simp [HP.out], hb.trans (hb2.mono hb.size)⟩
        case measure => simp [intOf]; omega
      · rw [hp] at hcall
        have HX := Go.Lib.hid (HF.out hp)
        have HCA := Go.Lib.hid hcall
        clear hp hcall
        go_wp2_with (go_at_call 56; refine (HCA.out _ (hb.mono (by omega))).mono ?_; rintro e w' ⟨rfl, hb2⟩)
        go_ret
        exact ⟨by rw [HX.out]; rfl, hb.trans (hb2.mono hb.size)⟩
    · have hk2 : k = l.length := by omega
      subst hk2
      have hx : firstBad del l = -1 := by
        have := HA.out
        rw [List.take_of_length_le (by omega)] at this
        unfold firstBad
        rw [this]
        rfl
      have HX := Go.Lib.hid hx
      clear hx
      go_wp2
      go_ret
      exact ⟨by rw [HX.out]; rfl, hb⟩
theorem filter_take (del : ByteArray → Bool) (l : List ByteArray) {k : Nat} (h : k < l.length) : (l.take (k + 1)).filter (fun s => !del s) = (l.take k).filter (fun s => !del s) ++ (if del (l.getD k ByteArray.empty) = true then [] else [l.getD k ByteArray.empty]) := by
  rw [take_s l h, List.filter_append]
  congr 1
  generalize l.getD k ByteArray.empty = s
  cases hd : del s <;> simp [hd]
theorem firstBad_split {del : ByteArray → Bool} {l : List ByteArray} (h : l.any del = true) : ∃ k : Nat, k < l.length ∧ firstBad del l = (k : Nat) ∧ (l.take (k + 1)).filter (fun s => !del s) = l.take k := by
  obtain ⟨x, hx, hdx⟩ := List.any_eq_true.1 h
  unfold firstBad
  rw [if_pos h]
  refine ⟨_, ?_, rfl, ?_⟩
  · clear hdx hx
    induction l with
    | nil => simp at h
    | cons a xs ih =>
      rw [List.takeWhile_cons]
      cases hd : del a
      · simp [hd] at h
        simp
        exact ih (by simpa using h)
      · simp
  · clear hdx hx
    induction l with
    | nil => simp at h
    | cons a xs ih =>
      rw [List.takeWhile_cons]
      cases hd : del a
      · simp [hd] at h
        have := ih (by simpa using h)
        simp [hd]
        simpa using this
      · simp [hd]
theorem List.take_set_succ_ {α : Type} {l : List α} {i : Nat} {x : α} (h : i < l.length) : (l.set i x).take (i + 1) = l.take i ++ [x] := by
  rw [List.take_succ_eq_append_getElem (by simpa using h)]
  simp [List.take_set_of_le]
set_option maxHeartbeats 2000000 in
theorem del_calls (pt pn : Value) (g cap : Nat) (l : List ByteArray) (cur : Array Value) (w : World) (hh : w.heap[g]? = some (.cells cur 9 (0, 0))) (hcur : cur.toList.take l.length = l.map .string) (hl : l.length ≤ 100) (hcap : l.length ≤ cap) (hsz : cur.size = cap) (del : ByteArray → Bool)
    (hd : ∀ W s, s ∈ l → Below g w W → Calls Try.prog 56 #[.string s, pt, pn] W fun e w' => e = .returned (.bool (del s)) ∧ Below W.heap.size W w') :
    Calls Try.prog 55 #[.slice (some ⟨g, 0, none⟩) l.length cap, .func (.func 56) #[] #[pt, pn]] w fun e w' => ∃ cur' : Array Value, e = .returned (.slice (some ⟨g, 0, none⟩) (l.filter fun s => !del s).length cap) ∧ w'.heap[g]? = some (.cells cur' 9 (0, 0)) ∧ cur'.size = cap ∧ cur'.toList.take (l.filter fun s => !del s).length = (l.filter fun s => !del s).map .string ∧ Below g w w' := by
  have hlt := lt_heap hh
  have hidx := fun W (hW : Below w.heap.size w W) => idx_calls pt pn g cap l cur W ((hW.block g hlt).trans hh) hcur hl del (fun W2 s hs hb => hd W2 s hs ((hW.mono (by omega)).trans hb))
  have HI := Go.Lib.hid hidx
  have HH := Go.Lib.hid hh
  have HC := Go.Lib.hid hcur
  have HD := Go.Lib.hid hd
  clear hh hcur hd hidx
  cases hany : l.any del
  · have hf : firstBad del l = -1 := by unfold firstBad; rw [hany]; rfl
    have hfl : (l.filter fun s => !del s) = l := by
      rw [List.filter_eq_self]
      intro s hs
      have := List.any_eq_false.1 hany s hs
      simpa using this
    rw [hfl]
    rw [hf] at HI
    clear hany hf hfl
    go_enter Try.func55, Try.ntmps55
    go_wp2_with (go_at_call 57; refine (HI.out _ (Below.refl _ _)).mono ?_; rintro e w' ⟨rfl, hb⟩)
    go_ret
    exact ⟨cur, rfl, (hb.block g hlt).trans HH.out, hsz, HC.out, hb.mono (by omega)⟩
  · obtain ⟨i0, hi0, hf, hfi⟩ := firstBad_split hany
    rw [hf] at HI
    have HFI := Go.Lib.hid hfi
    have hne : (((i0 : Nat) : Int) == -1) = false := by simp
    clear hany hf hfi
    go_enter Try.func55, Try.ntmps55
    go_wp2_with (go_at_call 57; refine (HI.out _ (Below.refl _ _)).mono ?_; rintro e w1 ⟨rfl, hb0⟩)
    go_loopw [6, 5] (fun v6 v5 W => ∃ (j i : Nat) (cur1 : Array Value), i < j ∧ j ≤ l.length ∧ v6 = .int .i64 j ∧ v5 = .int .i64 i ∧ W.heap[g]? = some (.cells cur1 9 (0, 0)) ∧ cur1.size = cap ∧ cur1.toList.take i = ((l.take j).filter fun s => !del s).map .string ∧ i = ((l.take j).filter fun s => !del s).length ∧ (∀ q, j ≤ q → cur1[q]? = cur[q]?) ∧ Below g w W) (fun v6 _ _ => l.length - (intOf v6).toNat)
    case atStart =>
      refine ⟨i0 + 1, i0, cur, by omega, by omega, by go_num, rfl, (hb0.block g hlt).trans HH.out, hsz, ?_, ?_, fun q _ => rfl, hb0.mono (by omega)⟩
      · rw [HFI.out, List.map_take, ← HC.out, List.take_take]
        congr 1
        omega
      · rw [HFI.out, List.length_take]
        omega
    case round =>
      clear hb0 HI HFI hi0
      obtain ⟨j, i, cur1, hij, hj, rfl, rfl, hg1, hsz1, htk, hlen, hrest, hb⟩ := hrel
      have HTK := Go.Lib.hid htk
      have HRE := Go.Lib.hid hrest
      have HLE := Go.Lib.hid hlen
      clear htk hrest hlen
      by_cases hjt : j < l.length
      · have hc : wr.cell? ⟨g, j, none⟩ = some (.string (l.getD j ByteArray.empty)) := by
          rw [h_cell hg1 j, HRE.out j (by omega)]
          exact cur_s HC.out hjt
        obtain ⟨x0, hx0⟩ : ∃ x, cur1[i]? = some x := ⟨_, Array.getElem?_eq_getElem (by omega)⟩
        have HF := Go.Lib.hid (filter_take del l hjt)
        have hcall := fun W hW => HD.out W _ (mem_s l hjt) hW
        generalize l.getD j ByteArray.empty = s at *
        cases hp : del s
        · rw [hp] at hcall HF
          have HCA := Go.Lib.hid hcall
          have HG := Go.Lib.hid hg1
          clear hp hcall hg1
          go_wp2_with (go_at_call 56; refine (HCA.out _ hb).mono ?_; rintro e w2 ⟨rfl, hb2⟩; have hg2 := (hb2.block g (lt_heap HG.out)).trans HG.out; have hci2 : w2.cell? ⟨g, i, none⟩ = some x0 := (h_cell hg2 i).trans hx0; have hfi2 := h_frozen hg2 i)
          go_roundw
          case rel =>
            have hst := h_set (i := i) hg2 (.string s)
            refine ⟨j + 1, i + 1, _, by omega, by omega, by go_num, by go_num, hst, by simpa using hsz1, ?_, ?_, fun q hq => ?_, ?_⟩
            · rw [HF.out, List.map_append, ← HTK.out, if_neg (by decide)]
              show _ = List.take i cur1.toList ++ [Value.string s]
              rw [Array.toList_setIfInBounds, List.take_set_succ_ (by rw [Array.length_toList]; omega)]
            · rw [HF.out, if_neg (by decide), List.length_append, ← HLE.out]; rfl
            · rw [Array.getElem?_setIfInBounds_ne (by omega)]
              exact HRE.out q (by omega)
            · exact (hb.trans (hb2.mono (by have := lt_heap HG.out; omega))).setCell (Nat.le_refl _) _
          case measure => simp [intOf]; omega
        · rw [hp] at hcall HF
          have HCA := Go.Lib.hid hcall
          have HG := Go.Lib.hid hg1
          clear hp hcall hg1 hx0
          go_wp2_with (go_at_call 56; refine (HCA.out _ hb).mono ?_; rintro e w2 ⟨rfl, hb2⟩)
          go_roundw
          case rel => exact ⟨j + 1, i, cur1, by omega, by omega, by go_num, rfl, (hb2.block g (lt_heap HG.out)).trans HG.out, hsz1, by rw [HF.out, if_pos trivial, List.append_nil]; exact HTK.out, by rw [HF.out, if_pos trivial, List.append_nil]; exact HLE.out, fun q hq => HRE.out q (by omega), hb.trans (hb2.mono (by have := lt_heap HG.out; omega))⟩
          case measure => simp [intOf]; omega
      · have hj2 : j = l.length := by omega
        subst hj2
        obtain ⟨i9, hi9, hz9, hsz9, _⟩ := info_parts info9
        have hcf : ∀ W : World, (Instr.slice 22 (.slice (some ⟨g, 0, none⟩) l.length cap) (some (.int .i64 (i : Int))) none none).run Try.prog W = .ok (.slice (some ⟨g, i, none⟩) (l.length - i) (cap - i)) W := fun W => by
          have := cut_from (P := Try.prog) 22 9 .i64 Try.underlying22 hi9 1 hsz9 (some ⟨g, 0, none⟩) l.length cap (i : Int) (by omega) (by omega) W
          rw [this, if_neg (by omega)]
          simp [Addr.add] <;> omega
        have hct : ∀ W : World, (Instr.slice 22 (.slice (some ⟨g, 0, none⟩) l.length cap) none (some (.int .i64 (i : Int))) none).run Try.prog W = .ok (.slice (some ⟨g, 0, none⟩) i cap) W := fun W => by
          have := cut_to (P := Try.prog) 22 9 .i64 Try.underlying22 hi9 (some ⟨g, 0, none⟩) l.length cap (i : Int) (by omega) (by omega) hcap W
          rw [this]
          rfl
        have hcl : ∀ ty, (Builtin.clear_ #[22] ty #[.slice (some ⟨g, i, none⟩) (l.length - i) (cap - i)]).run Try.prog wr = .ok (.tuple #[]) (wr.setCells g i (List.replicate (l.length - i) (.string ⟨#[]⟩))) := fun ty => by
          refine Lib.run_clear_slice wr 22 9 ty (.string ⟨#[]⟩) Try.underlying22 (fun W => ?_) rfl rfl g i _ _ (by omega) (fun q hq => ?_) (fun q hq => h_frozen hg1 _)
          · simp [go_sem]
          · rw [h_cell hg1, Array.getElem?_eq_getElem (by omega)]; rfl
        obtain ⟨cur2, hg2, hsz2, hl2⟩ := setCells_row (List.replicate (l.length - i) (.string ⟨#[]⟩)) i wr cur1 hg1 (by rw [List.length_replicate]; omega)
        obtain ⟨s1, s2, s3, s4⟩ := setCells_same g (List.replicate (l.length - i) (.string ⟨#[]⟩)) i wr
        have hb3 : Below g wr (wr.setCells g i (List.replicate (l.length - i) (.string ⟨#[]⟩))) := ⟨s1, s2, s3, by rw [s4]; exact Nat.le_refl _, fun k hk => setCells_far _ _ k (by omega)⟩
        have hb4 := hb.trans hb3
        have HG2 := Go.Lib.hid hg2
        have HL2 := Go.Lib.hid hl2
        generalize wr.setCells g i (List.replicate (l.length - i) (.string ⟨#[]⟩)) = w4 at *
        clear hi9 hz9 hsz9 s1 s2 s3 s4 hg2 hl2 hg1
        go_wp2
        go_ret
        have hll : l.take l.length = l := List.take_of_length_le (by omega)
        have h1 := HTK.out
        have h2 := HLE.out
        rw [hll] at h1 h2
        refine ⟨cur2, by rw [← h2]; rfl, HG2.out, by omega, ?_, hb4⟩
        rw [← h2, ← h1, HL2.out, List.append_assoc, List.take_append_of_le_length (by rw [List.length_take, Array.length_toList]; omega), List.take_take, Nat.min_self]
theorem clip_calls (A : Option Addr) (n cap : Nat) (w : World) (hn : n ≤ cap) :
    Calls Try.prog 54 #[.slice A n cap] w fun e w' => e = .returned (.slice A n n) ∧ w' = w := by
  obtain ⟨i9, hi9, hz9, hsz9, _⟩ := info_parts info9
  go_enter Try.func54, Try.ntmps54
  go_wp2
  go_ret
  exact ⟨rfl, rfl⟩
theorem idx_nil (pt pn : Value) (w : World) :
    Calls Try.prog 57 #[.slice none 0 0, .func (.func 56) #[] #[pt, pn]] w fun e w' => e = .returned (.int .i64 (-1)) ∧ w' = w := by
  go_enter Try.func57, Try.ntmps57
  go_wp2
  go_loop [8] (fun v8 => v8 = .int .i64 0) (fun _ => 0)
  case atStart => rfl
  case round =>
    subst hrel
    go_wp2
    go_ret
    exact ⟨rfl, rfl⟩
theorem del_any (pt pn : Value) (v : Value) (l : List ByteArray) (base : Nat) (w : World) (hv : w.ownsRow base 9 1 v l.length (encs Value.string l)) (hbase : base ≤ w.heap.size) (hl : l.length ≤ 100) (del : ByteArray → Bool)
    (hd : ∀ W s, s ∈ l → Below base w W → Calls Try.prog 56 #[.string s, pt, pn] W fun e w' => e = .returned (.bool (del s)) ∧ Below W.heap.size W w') :
    Calls Try.prog 55 #[v, .func (.func 56) #[] #[pt, pn]] w fun e w' => ∃ A c, e = .returned (.slice A (l.filter fun s => !del s).length c) ∧ (l.filter fun s => !del s).length ≤ c ∧ Kd.F Kd.string w' (fun k => base ≤ k) A (l.filter fun s => !del s).length (l.filter fun s => !del s) ∧ Below base w w' := by
  obtain ⟨h1, ⟨rfl, h0⟩ | ⟨g, cap, cur, rfl, hg, hh, hnc, hcm, hcs, ht⟩⟩ := hv
  · obtain rfl := List.eq_nil_of_length_eq_zero h0
    have hi := idx_nil pt pn
    have HI := Go.Lib.hid hi
    clear hi hd h1
    go_enter Try.func55, Try.ntmps55
    go_wp2_with (go_at_call 57; refine (HI.out _).mono ?_; rintro e w' ⟨rfl, rfl⟩)
    go_ret
    exact ⟨none, 0, rfl, Nat.le_refl _, Kd.F_nil _ _ _, Below.refl _ _⟩
  · refine (del_calls pt pn g cap l cur w hh (by rw [Nat.mul_one] at ht; exact ht) hl hnc (by omega) del (fun W s hs hb => hd W s hs (hb.mono hg))).mono ?_
    rintro e w' ⟨cur', rfl, hg', hsz', ht', hb'⟩
    have hlen : (l.filter fun s => !del s).length ≤ cap := Nat.le_trans (List.length_filter_le _ _) hnc
    have ho : w'.ownsRow base 9 1 (.slice (some ⟨g, 0, none⟩) (l.filter fun s => !del s).length cap) (l.filter fun s => !del s).length (encs Value.string (l.filter fun s => !del s)) :=
      ⟨by rw [encs, List.length_map, Nat.mul_one], .inr ⟨g, cap, cur', rfl, hg, hg', hlen, hcm, by omega, by rw [Nat.mul_one, ht']; rfl⟩⟩
    have hR := Kd.R_of_own (h1 := fun _ => rfl) (ok := fun k => base ≤ k) ho (fun k hk => by
      have : g = k := by simpa [Value.ownBlock] using hk
      omega)
    exact ⟨some ⟨g, 0, none⟩, cap, rfl, hlen, (Kd.V_at (Kd.R_V (base' := base) hR)).2.2, hb'.mono hg⟩
def kept (l : List ByteArray) (need : Int) (s : ByteArray) : Bool := !decide (((cnt l s.data.toList : Nat) : Int) < need)
theorem few_ready (w w2 w3 : World) (a2 : Int) (l0 o : List ByteArray) (m : Pre → Nat) (hb2 : Below (w.alloc (.cells #[.int .i64 a2] 3)).heap.size (w.alloc (.cells #[.int .i64 a2] 3)) w2) (hb3 : Below w2.heap.size w2 w3) (hT : Tree w3 w2.heap.size m (cnt l0))
    (hok : ∀ s ∈ o, s.size ≤ 140737488351232 ∧ s.data.toList.all ab = true) :
    Below w.heap.size w (w3.alloc (.cells #[.pointer (some ⟨m [], 0, none⟩)] 53)) ∧ ∀ W s, s ∈ o → Below (w3.alloc (.cells #[.pointer (some ⟨m [], 0, none⟩)] 53)).heap.size (w3.alloc (.cells #[.pointer (some ⟨m [], 0, none⟩)] 53)) W →
      Calls Try.prog 56 #[.string s, .pointer (some ⟨w3.heap.size, 0, none⟩), .pointer (some ⟨w.heap.size, 0, none⟩)] W fun e w' => e = .returned (.bool (!kept l0 a2 s)) ∧ Below W.heap.size W w' := by
  have hb1 : Below w.heap.size w (w.alloc (.cells #[.int .i64 a2] 3)) := (Below.refl _ w).alloc (Nat.le_refl _) _
  have hz1 : (w.alloc (.cells #[.int .i64 a2] 3)).heap.size = w.heap.size + 1 := by simp
  have hb13 := hb2.trans (hb3.mono hb2.size)
  have hz4 : (w3.alloc (.cells #[.pointer (some ⟨m [], 0, none⟩)] 53)).heap.size = w3.heap.size + 1 := by simp
  have hb34 : Below w3.heap.size w3 (w3.alloc (.cells #[.pointer (some ⟨m [], 0, none⟩)] 53)) := (Below.refl _ w3).alloc (Nat.le_refl _) _
  have hb14 := hb13.trans (hb34.mono hb13.size)
  refine ⟨hb1.trans (hb14.mono hb1.size), fun W s hs hW => ?_⟩
  have := hb13.size
  have e : (!kept l0 a2 s) = decide (((cnt l0 s.data.toList : Nat) : Int) < a2) := by simp [kept]
  rw [e]
  refine few_calls s W (hok s hs).1 ((hT.below (Nat.le_refl _) hb34).below (Nat.le_refl _) hW) (hok s hs).2 w3.heap.size w.heap.size a2 ?_ ?_
  · rw [hW.block _ (by omega)]
    exact heap_new rfl
  · rw [hW.block _ (by omega), hb14.block _ (by omega)]
    exact heap_new rfl
def impl_HeavyStep.f (k : Nat) (a0 a1 : List ByteArray) (a2 : Int) : Option (List ByteArray) := (impl_WordsOk.f a0).bind fun t => if t = true then ((impl_HeavyNext.f k a1).bind fun o => if (o.length ≤ 100 ∧ ∀ s ∈ o, s.size ≤ 140737488351232 ∧ s.data.toList.all ab = true) then some (o.filter (kept a0 a2)) else none) else some []
theorem impl_HeavyStep.mono : ∀ a0 a1 a2 k, LeO (impl_HeavyStep.f k a0 a1 a2) (impl_HeavyStep.f (k + 1) a0 a1 a2) := by
  intro a0 a1 a2 k
  unfold impl_HeavyStep.f
  exact LeO.bind (LeO.refl _) (fun t => LeO.ite (LeO.bind (impl_HeavyNext.mono _ _) (fun _ => LeO.refl _)) (LeO.refl _))
set_option maxHeartbeats 2000000 in
theorem impl_HeavyStep.calls (k : Nat) (A0 : Option Addr) (c0 : Nat) (l0 : List ByteArray) (A1 : Option Addr) (c1 : Nat) (l1 : List ByteArray) (a2 : Int) (r : List ByteArray) (w : World) (hr0 : Kd.C Kd.string w A0 l0.length l0) (hc0 : l0.length ≤ c0) (hr1 : Kd.C Kd.string w A1 l1.length l1) (hc1 : l1.length ≤ c1) (h : impl_HeavyStep.f k l0 l1 a2 = some r) :
    Calls Try.prog 34 #[.slice A0 l0.length c0, .slice A1 l1.length c1, .int .i64 a2] w fun e w' => ∃ v0_ : Value, e = .returned (v0_) ∧ Kd.V Kd.string 9 w' w.heap.size (fun k_ => (w.heap.size ≤ k_)) v0_ r ∧ Below w.heap.size w w' := by
  unfold impl_HeavyStep.f at h
  obtain ⟨t, ht, h⟩ := Option.bind_eq_some_iff.1 h
  have hb1 : Below w.heap.size w (w.alloc (.cells #[.int .i64 a2] 3)) := (Below.refl _ w).alloc (Nat.le_refl _) _
  have HW := Go.Lib.hid ht
  have HR0 := Go.Lib.hid hr0
  have HC0 := Go.Lib.hid hc0
  have HR1 := Go.Lib.hid hr1
  have HC1 := Go.Lib.hid hc1
  clear hr0 hc0 hr1 hc1
  cases t
  · rw [if_neg (by decide)] at h
    obtain rfl := Option.some.inj h
    clear h ht
    go_enter Try.func34, Try.ntmps34
    go_wp2_with (go_at_call 21; refine (impl_WordsOk.calls A0 c0 l0 false _ (Kd.C_below HR0.out hb1) HC0.out HW.out).mono ?_; rintro e w2 ⟨rfl, hb⟩)
    go_ret
    exact ⟨_, rfl, Kd.V_nil _ _ _ _ _, hb1.trans (hb.mono hb1.size)⟩
  · rw [if_pos rfl] at h
    obtain ⟨h12, hs⟩ := words_of ht
    have HS := Go.Lib.hid hs
    obtain ⟨o, ho, h⟩ := Option.bind_eq_some_iff.1 h
    split at h
    · rename_i hok
      obtain rfl := Option.some.inj h
      have HO := Go.Lib.hid ho
      have HOK := Go.Lib.hid hok
      have hbn : (w.alloc (.cells #[.int .i64 a2] 3)).heap[w.heap.size]? = some (.cells #[.int .i64 a2] 3 (0, 0)) := heap_new rfl
      have HBN := Go.Lib.hid hbn
      have HB1 := Go.Lib.hid hb1
      have hz1 : (w.alloc (.cells #[.int .i64 a2] 3)).heap.size = w.heap.size + 1 := by simp
      clear h ho hok hs ht hbn hb1
      go_enter Try.func34, Try.ntmps34
      go_wp2_with (first | (go_at_call 21; refine (impl_WordsOk.calls A0 c0 l0 true _ (Kd.C_below HR0.out HB1.out) HC0.out HW.out).mono ?_; rintro e w2 ⟨rfl, hb2⟩) | (go_at_call 52; refine (treeOf_calls A0 c0 l0 _ (Kd.C_below (Kd.C_below HR0.out HB1.out) hb2) h12 HS.out).mono ?_; rintro e w3 ⟨m, rfl, hT, hb3⟩; obtain ⟨hb4, hfew⟩ := few_ready w w2 w3 a2 l0 o m hb2 hb3 hT HOK.out.2; have HF := Go.Lib.hid hfew; clear hfew hT) | (go_at_call 25; refine (impl_HeavyNext.calls k A1 c1 l1 o _ (Kd.C_below HR1.out hb4) HC1.out HO.out).mono ?_; rintro e w5 ⟨v5, rfl, hR, hb5⟩; have HOWN := Go.Lib.hid (Kd.own_of_R (enc := Value.string) (h1 := fun _ => rfl) hR); clear hR) | (go_at_call 55; refine (del_any _ _ v5 o _ _ HOWN.out hb5.size HOK.out.1 (fun s => !kept l0 a2 s) (fun W s hs hW => HF.out W s hs (hb5.trans hW))).mono ?_; rintro e w6 ⟨A6, c6, rfl, hle, hFF, hb6⟩; simp only [Bool.not_not] at hle hFF) | (go_at_call 54; refine (clip_calls A6 _ c6 _ hle).mono ?_; rintro e w7 ⟨rfl, rfl⟩))
      go_ret
      have hbw := hb4.trans ((hb5.trans hb6).mono hb4.size)
      have hF2 := Kd.F_mono hFF (fun k hk => Nat.le_trans hb4.size hk)
      refine ⟨_, rfl, ?_, hbw⟩
      have hV := Kd.V_mk (d := Kd.string) (e := 9) (base := w.heap.size) (Nat.le_refl _) hF2
      exact hV
    · cases h

/-- A state of type 59 at block g of W; what its slices lead to came in by w0. -/
def IsS59 (w0 W : World) (g : Nat) (f0 : List Int) (f1 : Int) : Prop := ∃ A0 c0, W.heap[g]? = some (.cells #[.slice A0 f0.length c0, .int .i64 f1] 59 (0, 0)) ∧ w0.heap.size ≤ g ∧ Kd.C (Kd.int .u8) w0 A0 f0.length f0
theorem IsS59.grown {w0 W : World} {g : Nat} {f0 : List Int} {f1 : Int} {W1 : World} {row : Option Nat} (h : IsS59 w0 W g f0 f1) (hw : W.grownBy W1 row) (hne : some g ≠ row) : IsS59 w0 W1 g f0 f1 := by
  obtain ⟨A0, c0, hb, hg, hr0⟩ := h
  exact ⟨A0, c0, blk_grown hb hw hne, hg, hr0⟩
theorem IsS59.own_neN {w0 W : World} {g : Nat} {f0 : List Int} {f1 : Int} {α : Type} {d : Kd α} {e : Nat} {base : Nat} {ok : Nat → Prop} {v : Value} {xs : List α} (h : IsS59 w0 W g f0 f1) (ho : Kd.N d e W base ok v xs) (ht : e ≠ 59) : some g ≠ v.ownBlock := by
  obtain ⟨A0, c0, hb, hg, hr0⟩ := h
  exact Kd.N_ne ho hb ht
theorem IsS59.fresh {w0 W : World} {g : Nat} {f0 : List Int} {f1 : Int} (h : IsS59 w0 W g f0 f1) : ∀ k, W.heap.size ≤ k → k ≠ g := by
  obtain ⟨A0, c0, hb, hg, hr0⟩ := h
  exact Kd.freshB hb
theorem IsS59.kept {w0 W : World} {g : Nat} {f0 : List Int} {f1 : Int} {W1 : World} {S : Nat → Prop} (h : IsS59 w0 W g f0 f1) (hk : Kept W W1 S) (hne : ¬ S g) : IsS59 w0 W1 g f0 f1 := by
  obtain ⟨A0, c0, hb, hg, hr0⟩ := h
  exact ⟨A0, c0, blk_kept hb hk hne, hg, hr0⟩
theorem IsS59.below {w0 W : World} {g : Nat} {f0 : List Int} {f1 : Int} {W1 : World} (h : IsS59 w0 W g f0 f1) (hw : Below W.heap.size W W1) : IsS59 w0 W1 g f0 f1 := h.grown (grown_of_below hw none) (by simp)
theorem IsS59.alloc {w0 W : World} {g : Nat} {f0 : List Int} {f1 : Int} (h : IsS59 w0 W g f0 f1) (o : Obj) : IsS59 w0 (W.alloc o) g f0 f1 := h.below (below_alloc (Below.refl _ _) o)
theorem IsS59.drewN {w0 W : World} {g : Nat} {f0 : List Int} {f1 : Int} (h : IsS59 w0 W g f0 f1) (m : Nat) : IsS59 w0 (W.drewN m) g f0 f1 := h
theorem IsS59.drew {w0 W : World} {g : Nat} {f0 : List Int} {f1 : Int} (h : IsS59 w0 W g f0 f1) : IsS59 w0 W.drew g f0 f1 := h
theorem IsS59.at_ {w0 W : World} {g : Nat} {f0 : List Int} {f1 : Int} {w' : World} {m : Nat} (hq : W.drewN m = w') (h : IsS59 w0 W g f0 f1) : IsS59 w0 w' g f0 f1 := by subst hq; exact IsS59.drewN h m
theorem IsS59.apart {w0 W : World} {g : Nat} {f0 : List Int} {f1 : Int} {α : Type} {d : Kd α} {e : Nat} {base : Nat} {ok : Nat → Prop} {v : Value} {xs : List α} (h : IsS59 w0 W g f0 f1) (ho : d.R e W base ok v xs) (ht : ∀ q, q ∈ e :: d.E → q ≠ 59) : d.R e W base (fun k => ok k ∧ k ≠ g) v xs := by
  obtain ⟨A0, c0, hb, hg, hr0⟩ := h
  exact Kd.R_types ho hb ht
theorem IsS59.own_ne {w0 W : World} {g : Nat} {f0 : List Int} {f1 : Int} {α : Type} {d : Kd α} {e : Nat} {base : Nat} {ok : Nat → Prop} {v : Value} {xs : List α} (h : IsS59 w0 W g f0 f1) (ho : d.R e W base ok v xs) (ht : e ≠ 59) : some g ≠ v.ownBlock := by
  obtain ⟨A0, c0, hb, hg, hr0⟩ := h
  exact Kd.R_ne ho hb ht
theorem IsS59.apartQ {w0 W : World} {g : Nat} {f0 : List Int} {f1 : Int} {α : Type} {d : Kd α} {e : Nat} {base : Nat} {ok : Nat → Prop} {v : Value} {xs : List α} (h : IsS59 w0 W g f0 f1) (ho : d.Q e W base ok v xs) (ht : ∀ q, q ∈ e :: d.E → q ≠ 59) : d.Q e W base (fun k => ok k ∧ k ≠ g) v xs := by
  obtain ⟨A0, c0, hb, hg, hr0⟩ := h
  exact Kd.Q_types ho hb ht
theorem IsS59.own_neQ {w0 W : World} {g : Nat} {f0 : List Int} {f1 : Int} {α : Type} {d : Kd α} {e : Nat} {base : Nat} {ok : Nat → Prop} {v : Value} {xs : List α} (h : IsS59 w0 W g f0 f1) (ho : d.Q e W base ok v xs) (ht : e ≠ 59) : some g ≠ v.ownBlock := by
  obtain ⟨A0, c0, hb, hg, hr0⟩ := h
  exact Kd.Q_ne ho hb ht
theorem IsS59.apartS {w0 W : World} {g : Nat} {f0 : List Int} {f1 : Int} {α : Type} {d : Kd α} {e : Nat} {base : Nat} {ok : Nat → Prop} {v : Value} {xs : List α} (h : IsS59 w0 W g f0 f1) (ho : d.S e W base ok v xs) (ht : ∀ q, q ∈ e :: d.E → q ≠ 59) : d.S e W base (fun k => ok k ∧ k ≠ g) v xs := by
  obtain ⟨A0, c0, hb, hg, hr0⟩ := h
  exact Kd.S_types ho hb ht
theorem IsS59.own_neS {w0 W : World} {g : Nat} {f0 : List Int} {f1 : Int} {α : Type} {d : Kd α} {e : Nat} {base : Nat} {ok : Nat → Prop} {v : Value} {xs : List α} (h : IsS59 w0 W g f0 f1) (ho : d.S e W base ok v xs) (ht : e ≠ 59) : some g ≠ v.ownBlock := by
  obtain ⟨A0, c0, hb, hg, hr0⟩ := h
  exact Kd.S_ne ho hb ht
theorem IsS59.lt {w0 W : World} {g : Nat} {f0 : List Int} {f1 : Int} (h : IsS59 w0 W g f0 f1) : g < W.heap.size := by
  obtain ⟨A0, c0, hb, hg, hr0⟩ := h
  exact blk_lt hb
theorem IsS59.ge {w0 W : World} {g : Nat} {f0 : List Int} {f1 : Int} (h : IsS59 w0 W g f0 f1) : w0.heap.size ≤ g := by
  obtain ⟨A0, c0, hb, hg, hr0⟩ := h
  exact hg
theorem IsS59.ne_blk {w0 W : World} {g : Nat} {f0 : List Int} {f1 : Int} {a : Nat} {cs : Array Value} {t : TypeId} {fr : Nat × Nat} (h : IsS59 w0 W g f0 f1) (hb2 : W.heap[a]? = some (.cells cs t fr)) (ht : t ≠ 59) : g ≠ a := by
  obtain ⟨A0, c0, hb, hg, hr0⟩ := h
  rintro rfl
  rw [hb] at hb2
  injection hb2 with hb2
  injection hb2 with _ ht2
  exact ht ht2.symm
theorem IsS59.far {w0 W : World} {g : Nat} {f0 : List Int} {f1 : Int} {p : Addr} (h : IsS59 w0 W g f0 f1) (hne : g ≠ p.block) (u : Value) : IsS59 w0 (W.setCell p u) g f0 f1 := by
  obtain ⟨A0, c0, hb, hg, hr0⟩ := h
  exact ⟨A0, c0, blk_far hb hne u, hg, hr0⟩
theorem cellS59_0 {W : World} {g : Nat} {A0 : Option Addr} {c0 : Nat} {f0 : List Int} {f1 : Int} (h : W.heap[g]? = some (.cells #[.slice A0 f0.length c0, .int .i64 f1] 59 (0, 0))) : W.cell? ⟨g, 0, none⟩ = some (.slice A0 f0.length c0) := (blk_cell h 0).trans rfl
theorem cellS59_1 {W : World} {g : Nat} {A0 : Option Addr} {c0 : Nat} {f0 : List Int} {f1 : Int} (h : W.heap[g]? = some (.cells #[.slice A0 f0.length c0, .int .i64 f1] 59 (0, 0))) : W.cell? ⟨g, 1, none⟩ = some (.int .i64 f1) := (blk_cell h 1).trans rfl
theorem IsS59.set_1 {w0 W : World} {g : Nat} {f0 : List Int} {f1 : Int} (h : IsS59 w0 W g f0 f1) (x : Int) : IsS59 w0 (W.setCell ⟨g, 1, none⟩ (.int .i64 x)) g f0 x := by
  obtain ⟨A0, c0, hb, hg, hr0⟩ := h
  exact ⟨A0, c0, by simpa using blk_set hb 1 (.int .i64 x), hg, hr0⟩
theorem IsS59.new (w0 W : World) (A0 : Option Addr) (c0 : Nat) (f0 : List Int) (f1 : Int) (hB : Below w0.heap.size w0 W) (hr0 : Kd.C (Kd.int .u8) w0 A0 f0.length f0) : IsS59 w0 (W.alloc (.cells #[.slice A0 f0.length c0, .int .i64 f1] 59)) W.heap.size f0 f1 := ⟨A0, c0, by simpa using heap_alloc_new W _, hB.size, hr0⟩

/-! ### spec_l6Open: function 44 -/
def spec_l6Open.f (l0 : List Int) : Option (List Int × Int) := if (l0.length : Int) > 2000 then (if 2000 ≤ (l0.length : Int) then (some (l0.take 2000, 0)) else (none)) else (some (l0, 0))
set_option maxHeartbeats 8000000 in
set_option maxRecDepth 100000 in
theorem spec_l6Open.calls (A0 : Option Addr) (c0 : Nat) (l0 : List Int) (r1 : List Int) (r2 : Int) (w0 w : World) (hB : Below w0.heap.size w0 w) (hr0 : Kd.C (Kd.int .u8) w0 A0 l0.length l0) (hc0 : l0.length ≤ c0) (h : spec_l6Open.f l0 = some (r1, r2)) :
    Calls Try.prog 44 #[.slice A0 l0.length c0] w fun e w' => ∃ g_ : Nat, e = .returned (.pointer (some ⟨g_, 0, none⟩)) ∧ IsS59 w0 w' g_ r1 r2 ∧ Below w0.heap.size w0 w' ∧ Below w.heap.size w w' := by
  have hu59 := Try.underlying59
  have HR0 := Aside0.mk hr0
  have HC0 := Aside0.mk hc0
  clear hr0 hc0
  have HBW := Aside0.mk (Below.refl w.heap.size w)
  have HW0 := Aside0.mk hB.size
  have HB := Aside0.mk hB
  clear hB
  have H : (if (l0.length : Int) > 2000 then (if 2000 ≤ (l0.length : Int) then (some (l0.take 2000, 0)) else (none)) else (some (l0, 0))) = some (r1, r2) := h
  clear h
  by_cases c2 : (l0.length : Int) > 2000
  · rw [if_pos c2] at H
    have c2b0 : decide (2000 < (l0.length : Int)) = true := decide_eq_true c2
    have c2b1 : decide (2000 < l0.length) = true := decide_eq_true (by omega)
    clear c2
    by_cases c3 : 2000 ≤ (l0.length : Int)
    · rw [if_pos c3] at H
      have c3b0 := eq_true c3
      have c3b1 : decide (2000 ≤ (l0.length : Int)) = true := decide_eq_true c3
      clear c3
      simp only [Option.some.injEq, Prod.mk.injEq] at H
      obtain ⟨rfl, rfl⟩ := H
      obtain ⟨i04, hi04, _, hsz4, _⟩ := info_parts info5
      obtain ⟨hcut4, hA4, hC4⟩ := print_take_of (P := Try.prog) (Value.int .u8) 0 27 5 .i64 Try.underlying27 hi04 hsz4 A0 c0 l0 2000 (by omega) (of_decide_eq_true (by first | (with_reducible assumption) | assumption)) HC0.out
      have HR118 := Aside0.mk (Kd.C_of_reads (h1 := fun _ => rfl) (hA4 _ (Kd.reads_of_C HR0.out)))
      have HC118 := Aside0.mk hC4
      clear hA4 hC4 hi04 hsz4
      go_enter Try.func44, Try.ntmps44
      go_wp2_with (first | ((with_reducible refine gate_dst (N := 10) rfl ?_); refine box_event ?hg (N := 10) ?hd (cs := #[.slice A0 (l0.take 2000).length c0, .int .i64 0]) (t := 59) ?hr ?_; (case hd => rfl); (case hg => rfl); (case hr => first | (go_simp; done) | (go_simp; rfl)); intro gb119 hg w5 hbox hb; have n0_ := Aside0.mk (below_step HBW.out hb); have n1_ := Aside0.mk (below_step (by repeat (first | (with_reducible first | exact HB.out | apply below_alloc | apply pw_below_drewN | apply below_drew1) | exact HB.out)) hb); have n2_ := Aside0.mk (hbox); have n3_ := Aside0.mk ((by rw [hg]; exact (below_size (by repeat (first | (with_reducible first | exact HBW.out | apply below_alloc | apply pw_below_drewN | apply below_drew1) | exact HBW.out))) : w.heap.size ≤ gb119)); have n4_ := Aside0.mk ((Nat.le_trans HW0.out (by rw [hg]; exact (below_size (by repeat (first | (with_reducible first | exact HBW.out | apply below_alloc | apply pw_below_drewN | apply below_drew1) | exact HBW.out))) : w.heap.size ≤ gb119) : w0.heap.size ≤ gb119)); clear HBW; clear HB; have HBW := n0_; have HB := n1_; have BK119 := n2_; have GW119 := n3_; have GE119 := n4_; clear n0_ n1_ n2_ n3_ n4_; clear hb hbox hg))
      go_ret
      exact ⟨_, rfl, (show IsS59 w0 _ gb119 (l0.take 2000) 0 from ⟨_, _, by (with_reducible repeat (first | refine blk_drewN ?_ _ | refine blk_drew ?_ | refine blk_alloc ?_ _)); exact BK119.out, GE119.out, HR118.out⟩), by repeat (first | (with_reducible first | exact HB.out | apply below_alloc | apply pw_below_drewN | apply below_drew1 | refine below_set ?_ GE119.out) | exact HB.out), by repeat (first | (with_reducible first | exact HBW.out | apply below_alloc | apply pw_below_drewN | apply below_drew1 | refine below_set ?_ GW119.out) | exact HBW.out)⟩
    · rw [if_neg c3] at H
      exact absurd H (by simp)
  · rw [if_neg c2] at H
    have c2b0 : decide (2000 < (l0.length : Int)) = false := decide_eq_false c2
    have c2b1 : decide (2000 < l0.length) = false := decide_eq_false (by omega)
    clear c2
    simp only [Option.some.injEq, Prod.mk.injEq] at H
    obtain ⟨rfl, rfl⟩ := H
    go_enter Try.func44, Try.ntmps44
    go_wp2_with (first | ((with_reducible refine gate_dst (N := 10) rfl ?_); refine box_event ?hg (N := 10) ?hd (cs := #[.slice A0 l0.length c0, .int .i64 0]) (t := 59) ?hr ?_; (case hd => rfl); (case hg => rfl); (case hr => first | (go_simp; done) | (go_simp; rfl)); intro gb120 hg w6 hbox hb; have n0_ := Aside0.mk (below_step HBW.out hb); have n1_ := Aside0.mk (below_step (by repeat (first | (with_reducible first | exact HB.out | apply below_alloc | apply pw_below_drewN | apply below_drew1) | exact HB.out)) hb); have n2_ := Aside0.mk (hbox); have n3_ := Aside0.mk ((by rw [hg]; exact (below_size (by repeat (first | (with_reducible first | exact HBW.out | apply below_alloc | apply pw_below_drewN | apply below_drew1) | exact HBW.out))) : w.heap.size ≤ gb120)); have n4_ := Aside0.mk ((Nat.le_trans HW0.out (by rw [hg]; exact (below_size (by repeat (first | (with_reducible first | exact HBW.out | apply below_alloc | apply pw_below_drewN | apply below_drew1) | exact HBW.out))) : w.heap.size ≤ gb120) : w0.heap.size ≤ gb120)); clear HBW; clear HB; have HBW := n0_; have HB := n1_; have BK120 := n2_; have GW120 := n3_; have GE120 := n4_; clear n0_ n1_ n2_ n3_ n4_; clear hb hbox hg))
    go_ret
    exact ⟨_, rfl, (show IsS59 w0 _ gb120 l0 0 from ⟨_, _, by (with_reducible repeat (first | refine blk_drewN ?_ _ | refine blk_drew ?_ | refine blk_alloc ?_ _)); exact BK120.out, GE120.out, HR0.out⟩), by repeat (first | (with_reducible first | exact HB.out | apply below_alloc | apply pw_below_drewN | apply below_drew1 | refine below_set ?_ GE120.out) | exact HB.out), by repeat (first | (with_reducible first | exact HBW.out | apply below_alloc | apply pw_below_drewN | apply below_drew1 | refine below_set ?_ GW120.out) | exact HBW.out)⟩

/-! ### spec_l6Rd_pick: function 46 -/
def spec_l6Rd_pick.j0 : Nat → Int → Bool → List Int → Int → Option (Int × Int)
  | 0, _, _, _, _ => none
  | k + 1, x1, x24, x1000, x1001 => if x24 = true then (some (0, x1001)) else (if (wrap64 (x1001 - 1)) < (x1000.length : Int) then (if 0 ≤ (wrap64 (x1001 - 1)) then (if x1 = 0 then (none) else (some (Int.tmod (wrap64 (rd x1000 (wrap64 (x1001 - 1)))) x1, x1001))) else (none)) else (if (x1000.length : Int) = 0 then (none) else (if 0 ≤ (Int.tmod (wrap64 (x1001 - 1)) (x1000.length : Int)) then (if (Int.tmod (wrap64 (x1001 - 1)) (x1000.length : Int)) < (x1000.length : Int) then (if 0 ≤ (Int.tmod (wrap64 ((wrap64 ((wrap64 (x1001 - 1)) * 7)) + 3)) (x1000.length : Int)) then (if (Int.tmod (wrap64 ((wrap64 ((wrap64 (x1001 - 1)) * 7)) + 3)) (x1000.length : Int)) < (x1000.length : Int) then (if x1 = 0 then (none) else (some (Int.tmod (Go.bits .xor .i64 (wrap64 ((wrap64 ((wrap64 ((wrap64 ((wrap64 (rd x1000 (Int.tmod (wrap64 (x1001 - 1)) (x1000.length : Int)))) * 131)) + (wrap64 ((wrap64 (rd x1000 (Int.tmod (wrap64 ((wrap64 ((wrap64 (x1001 - 1)) * 7)) + 3)) (x1000.length : Int)))) * 1117)))) + (wrap64 ((wrap64 (x1001 - 1)) * 29)))) + (wrap64 ((wrap64 (Int.tdiv (wrap64 (x1001 - 1)) (x1000.length : Int))) * 53)))) (wrap64 (Int.tdiv (wrap64 ((wrap64 ((wrap64 ((wrap64 ((wrap64 (rd x1000 (Int.tmod (wrap64 (x1001 - 1)) (x1000.length : Int)))) * 131)) + (wrap64 ((wrap64 (rd x1000 (Int.tmod (wrap64 ((wrap64 ((wrap64 (x1001 - 1)) * 7)) + 3)) (x1000.length : Int)))) * 1117)))) + (wrap64 ((wrap64 (x1001 - 1)) * 29)))) + (wrap64 ((wrap64 (Int.tdiv (wrap64 (x1001 - 1)) (x1000.length : Int))) * 53)))) 64))) x1, x1001))) else (none)) else (none)) else (none)) else (none))))
def spec_l6Rd_pick.f (k : Nat) (s0_0 : List Int) (s0_1 : Int) (a1 : Int) : Option (Int × Int) := if a1 < 1 then (spec_l6Rd_pick.j0 k a1 true s0_0 (wrap64 (s0_1 + 1))) else (spec_l6Rd_pick.j0 k a1 ((s0_0.length : Int) == 0) s0_0 (wrap64 (s0_1 + 1)))
theorem spec_l6Rd_pick.mono_l : ∀ k, (∀ y0 y1 y2 y3, LeO (spec_l6Rd_pick.j0 k y0 y1 y2 y3) (spec_l6Rd_pick.j0 (k + 1) y0 y1 y2 y3))
  | 0 => fun _ _ _ _ r h => by simp [spec_l6Rd_pick.j0] at h
  | k + 1 => by
    have ih0 := spec_l6Rd_pick.mono_l k
    · intro y0 y1 y2 y3
      unfold spec_l6Rd_pick.j0
      repeat' first
      | (with_reducible exact ih0 _ _ _ _)
      | (with_reducible exact LeO.refl _)
      | (with_reducible exact LeO.none _)
      | (with_reducible refine LeO.ite ?_ ?_)
      | (with_reducible refine LeO.bind ?_ (fun _ => ?_))
      | exact ih0 _ _ _ _
      | exact LeO.none _
      | refine LeO.ite ?_ ?_
      | refine LeO.bind ?_ (fun _ => ?_)
theorem spec_l6Rd_pick.mono : ∀ a0 a1 a2 k, LeO (spec_l6Rd_pick.f k a0 a1 a2) (spec_l6Rd_pick.f (k + 1) a0 a1 a2) := by
  intro a0 a1 a2 k
  have ih0 := spec_l6Rd_pick.mono_l k
  unfold spec_l6Rd_pick.f
  repeat' first
      | (with_reducible exact ih0 _ _ _ _)
      | (with_reducible exact LeO.refl _)
      | (with_reducible exact LeO.none _)
      | (with_reducible refine LeO.ite ?_ ?_)
      | (with_reducible refine LeO.bind ?_ (fun _ => ?_))
      | exact ih0 _ _ _ _
      | exact LeO.none _
      | refine LeO.ite ?_ ?_
      | refine LeO.bind ?_ (fun _ => ?_)
set_option maxHeartbeats 8000000 in
set_option maxRecDepth 100000 in
theorem spec_l6Rd_pick.calls (k : Nat) (g : Nat) (s0_0 : List Int) (s0_1 : Int) (a1 : Int) (r1 : Int) (r2 : Int) (w0 w : World) (hI : IsS59 w0 w g s0_0 s0_1) (hB : Below w0.heap.size w0 w) (h : spec_l6Rd_pick.f k s0_0 s0_1 a1 = some (r1, r2)) :
    Calls Try.prog 46 #[.pointer (some ⟨g, 0, none⟩), .int .i64 a1] w fun e w' => e = .returned (.int .i64 r1) ∧ IsS59 w0 w' g s0_0 r2 ∧ Below w0.heap.size w0 w' ∧ KeepBut w w' g none := by
  have HI0 := Aside0.mk hI
  have HK := Aside0.mk (KeepBut.refl w g none)
  have HL := Aside0.mk hB.size
  clear hI
  have HW0 := Aside0.mk hB.size
  have HB := Aside0.mk hB
  clear hB
  have H : (if a1 < 1 then (spec_l6Rd_pick.j0 k a1 true s0_0 (wrap64 (s0_1 + 1))) else (spec_l6Rd_pick.j0 k a1 ((s0_0.length : Int) == 0) s0_0 (wrap64 (s0_1 + 1)))) = some (r1, r2) := h
  clear h
  have HC3 := Aside0.mk H
  clear H
  obtain ⟨ASz4_0, cSz4_0, HGz4, hgz4, HSz4_0⟩ := HI0.out
  have hcz4_0 := cellS59_0 HGz4
  have hcz4_1 := cellS59_1 HGz4
  have hfz4_1 := blk_frozen HGz4 1
  clear HGz4 hgz4
  go_enter Try.func46, Try.ntmps46
  go_upto_region 2 with (fail)
  repeat (go_quiet (fail); go_upto_region 2 with (fail))
  go_cut [24] (fun v24 wc => ∃ (kq : Nat) (x24_2 : Bool), v24 = .bool x24_2 ∧ Aside0 (spec_l6Rd_pick.j0 kq a1 x24_2 s0_0 (wrap64 (s0_1 + 1)) = some (r1, r2)) ∧ Aside0 (kq ≤ k) ∧ Aside0 (IsS59 w0 wc g s0_0 (wrap64 (s0_1 + 1))) ∧ Aside0 (KeepBut w wc g none) ∧ Aside0 (Below w0.heap.size w0 wc))
  case first =>
    have H := HC3.out
    clear HC3
    by_cases c5 : a1 < 1
    · rw [if_pos c5] at H
      have c5b0 : decide (a1 < 1) = true := decide_eq_true c5
      clear c5
      (first | rw [c5b0] | (simp only [i64_w, i32_w]; rw [c5b0]) | skip)
      have H' := Aside0.mk H
      clear H
      go_wp2
      repeat (go_quiet (fail); try go_wp2)
      go_meet
      case rel => exact ⟨_, (true), (by first | rfl | (simp; done) | (simp [*]; done)), H', ⟨by first | omega | exact Nat.le_refl _⟩, ⟨by repeat (first | (with_reducible first | exact HI0.out | apply IsS59.alloc | apply IsS59.drewN | apply IsS59.drew | apply IsS59.set_1) | exact HI0.out)⟩, ⟨by repeat (first | (with_reducible first | exact HK.out | apply KeepBut.set_ | apply keep_drewN | apply keep_drew | apply keep_alloc) | exact HK.out)⟩, ⟨by repeat (first | (with_reducible first | exact HB.out | apply below_alloc | apply pw_below_drewN | apply below_drew1 | refine below_set ?_ (IsS59.ge HI0.out)) | exact HB.out)⟩⟩
    · rw [if_neg c5] at H
      have c5b0 : decide (a1 < 1) = false := decide_eq_false c5
      clear c5
      (first | rw [c5b0] | (simp only [i64_w, i32_w]; rw [c5b0]) | skip)
      have H' := Aside0.mk H
      clear H
      obtain ⟨ASz6_0, cSz6_0, HGz6, hgz6, HSz6_0⟩ := HI0.out
      have hcz6_0 := cellS59_0 HGz6
      have hcz6_1 := cellS59_1 HGz6
      have hfz6_1 := blk_frozen HGz6 1
      clear HGz6 hgz6
      go_wp2
      repeat (go_quiet (fail); try go_wp2)
      go_meet
      case rel => exact ⟨_, (((s0_0.length : Int) == 0)), (by first | rfl | (simp; done) | (simp [*]; done)), H', ⟨by first | omega | exact Nat.le_refl _⟩, ⟨by repeat (first | (with_reducible first | exact HI0.out | apply IsS59.alloc | apply IsS59.drewN | apply IsS59.drew | apply IsS59.set_1) | exact HI0.out)⟩, ⟨by repeat (first | (with_reducible first | exact HK.out | apply KeepBut.set_ | apply keep_drewN | apply keep_drew | apply keep_alloc) | exact HK.out)⟩, ⟨by repeat (first | (with_reducible first | exact HB.out | apply below_alloc | apply pw_below_drewN | apply below_drew1 | refine below_set ?_ (IsS59.ge HI0.out)) | exact HB.out)⟩⟩
  case rest =>
    clear HC3
    try clear p2
    try clear c4
    try clear c5
    try clear c5b0
    try clear p6
    try clear hcz4_0
    try clear hcz4_1
    try clear hcz6_0
    try clear hcz6_1
    try clear hfz4_1
    try clear hfz6_1
    obtain ⟨kq, x24_2, rfl, HA, HJ2, HI0, HK, HB⟩ := hcut
    cases kq with
    | zero => exact absurd HA.out (by simp [spec_l6Rd_pick.j0])
    | succ kj2 =>
      have H := HA.out
      clear HA
      simp only [spec_l6Rd_pick.j0] at H
      by_cases c7 : x24_2 = true
      · subst c7
        have H1 : (some (0, (wrap64 (s0_1 + 1)))) = some (r1, r2) := by rw [if_pos rfl] at H; exact H
        clear H
        have H := H1
        clear H1
        simp only [Option.some.injEq, Prod.mk.injEq] at H
        obtain ⟨rfl, rfl⟩ := H
        go_wp2
        repeat (go_quiet (fail); try go_wp2)
        go_ret
        exact ⟨by first | rfl | (simp [errW_none, errW_some] <;> rfl) | (simp [*, errW_none, errW_some] <;> rfl), by repeat (first | (with_reducible first | exact HI0.out | apply IsS59.alloc | apply IsS59.drewN | apply IsS59.drew | apply IsS59.set_1) | exact HI0.out), by repeat (first | (with_reducible first | exact HB.out | apply below_alloc | apply pw_below_drewN | apply below_drew1 | refine below_set ?_ (IsS59.ge HI0.out)) | exact HB.out), by repeat (first | (with_reducible first | exact HK.out | apply KeepBut.set_ | apply keep_drewN | apply keep_drew | apply keep_alloc) | exact HK.out)⟩
      · replace c7 := Bool.eq_false_iff.mpr c7
        subst c7
        have H1 : (if (wrap64 ((wrap64 (s0_1 + 1)) - 1)) < (s0_0.length : Int) then (if 0 ≤ (wrap64 ((wrap64 (s0_1 + 1)) - 1)) then (if a1 = 0 then (none) else (some (Int.tmod (wrap64 (rd s0_0 (wrap64 ((wrap64 (s0_1 + 1)) - 1)))) a1, (wrap64 (s0_1 + 1))))) else (none)) else (if (s0_0.length : Int) = 0 then (none) else (if 0 ≤ (Int.tmod (wrap64 ((wrap64 (s0_1 + 1)) - 1)) (s0_0.length : Int)) then (if (Int.tmod (wrap64 ((wrap64 (s0_1 + 1)) - 1)) (s0_0.length : Int)) < (s0_0.length : Int) then (if 0 ≤ (Int.tmod (wrap64 ((wrap64 ((wrap64 ((wrap64 (s0_1 + 1)) - 1)) * 7)) + 3)) (s0_0.length : Int)) then (if (Int.tmod (wrap64 ((wrap64 ((wrap64 ((wrap64 (s0_1 + 1)) - 1)) * 7)) + 3)) (s0_0.length : Int)) < (s0_0.length : Int) then (if a1 = 0 then (none) else (some (Int.tmod (Go.bits .xor .i64 (wrap64 ((wrap64 ((wrap64 ((wrap64 ((wrap64 (rd s0_0 (Int.tmod (wrap64 ((wrap64 (s0_1 + 1)) - 1)) (s0_0.length : Int)))) * 131)) + (wrap64 ((wrap64 (rd s0_0 (Int.tmod (wrap64 ((wrap64 ((wrap64 ((wrap64 (s0_1 + 1)) - 1)) * 7)) + 3)) (s0_0.length : Int)))) * 1117)))) + (wrap64 ((wrap64 ((wrap64 (s0_1 + 1)) - 1)) * 29)))) + (wrap64 ((wrap64 (Int.tdiv (wrap64 ((wrap64 (s0_1 + 1)) - 1)) (s0_0.length : Int))) * 53)))) (wrap64 (Int.tdiv (wrap64 ((wrap64 ((wrap64 ((wrap64 ((wrap64 (rd s0_0 (Int.tmod (wrap64 ((wrap64 (s0_1 + 1)) - 1)) (s0_0.length : Int)))) * 131)) + (wrap64 ((wrap64 (rd s0_0 (Int.tmod (wrap64 ((wrap64 ((wrap64 ((wrap64 (s0_1 + 1)) - 1)) * 7)) + 3)) (s0_0.length : Int)))) * 1117)))) + (wrap64 ((wrap64 ((wrap64 (s0_1 + 1)) - 1)) * 29)))) + (wrap64 ((wrap64 (Int.tdiv (wrap64 ((wrap64 (s0_1 + 1)) - 1)) (s0_0.length : Int))) * 53)))) 64))) a1, (wrap64 (s0_1 + 1))))) else (none)) else (none)) else (none)) else (none)))) = some (r1, r2) := by rw [if_neg (show ¬ (false = true) by decide)] at H; exact H
        clear H
        have H := H1
        clear H1
        by_cases c8 : (wrap64 ((wrap64 (s0_1 + 1)) - 1)) < (s0_0.length : Int)
        · rw [if_pos c8] at H
          have c8b0 : decide ((wrap64 ((wrap64 (s0_1 + 1)) - 1)) < (s0_0.length : Int)) = true := decide_eq_true c8
          clear c8
          obtain ⟨ji9, hji9⟩ : ∃ j_ : Int, (wrap64 ((wrap64 (s0_1 + 1)) - 1)) = j_ := ⟨_, rfl⟩
          replace H : (if 0 ≤ (ji9) then (if a1 = 0 then (none) else (some (Int.tmod (wrap64 (rd s0_0 (ji9))) a1, (wrap64 (s0_1 + 1))))) else (none)) = some (r1, r2) := by first | (rw [hji9] at H; exact H) | (simp only [hji9] at H ⊢; exact H)
          (try rw [hji9] at c8b0)
          have hji9w : (IntKind.i64.wrap ((wrap64 (s0_1 + 1)) - 1)) = ji9 := (i64_w _).trans hji9
          by_cases c10 : 0 ≤ (ji9)
          · rw [if_pos c10] at H
            have c10b0 : decide (0 ≤ (ji9)) = true := decide_eq_true c10
            clear c10
            by_cases c11 : a1 = 0
            · rw [if_pos c11] at H
              exact absurd H (by simp)
            · rw [if_neg c11] at H
              have c11b0 : (a1 == 0) = false := beq_eq_false_iff_ne.mpr c11
              have c11b1 : (a1 != 0) = true := bne_iff_ne.mpr c11
              simp only [Option.some.injEq, Prod.mk.injEq] at H
              obtain ⟨rfl, rfl⟩ := H
              obtain ⟨ASz12_0, cSz12_0, HGz12, hgz12, HSz12_0⟩ := HI0.out
              have hcz12_0 := cellS59_0 HGz12
              have hcz12_1 := cellS59_1 HGz12
              have hfz12_1 := blk_frozen HGz12 1
              clear HGz12 hgz12
              have p121 : 0 ≤ ((ji9) : Int) := of_decide_eq_true (by first | (with_reducible assumption) | assumption)
              have q121 : (ji9) < (s0_0.length : Int) := of_decide_eq_true (by first | (with_reducible assumption) | assumption)
              obtain ⟨ad121, e121, hx121_0⟩ := Kd.at_int HSz12_0 (ji9) p121 q121
              cases e121
              replace hx121_0 := pw_cell_below HB.out hx121_0
              replace p121 := eq_true p121
              replace q121 := eq_true q121
              go_wp2
              repeat (go_quiet (fail); try go_wp2)
              go_ret
              exact ⟨by first | rfl | (simp [errW_none, errW_some] <;> rfl) | (simp only [← hji9]; first | rfl | (simp [errW_none, errW_some] <;> rfl)) | (simp [*, errW_none, errW_some] <;> rfl), by repeat (first | (with_reducible first | exact HI0.out | apply IsS59.alloc | apply IsS59.drewN | apply IsS59.drew | apply IsS59.set_1) | exact HI0.out), by repeat (first | (with_reducible first | exact HB.out | apply below_alloc | apply pw_below_drewN | apply below_drew1 | refine below_set ?_ (IsS59.ge HI0.out)) | exact HB.out), by repeat (first | (with_reducible first | exact HK.out | apply KeepBut.set_ | apply keep_drewN | apply keep_drew | apply keep_alloc) | exact HK.out)⟩
          · rw [if_neg c10] at H
            exact absurd H (by simp)
        · rw [if_neg c8] at H
          have c8b0 : decide ((wrap64 ((wrap64 (s0_1 + 1)) - 1)) < (s0_0.length : Int)) = false := decide_eq_false c8
          clear c8
          by_cases c13 : (s0_0.length : Int) = 0
          · rw [if_pos c13] at H
            exact absurd H (by simp)
          · rw [if_neg c13] at H
            have c13b0 : ((s0_0.length : Int) == 0) = false := beq_eq_false_iff_ne.mpr c13
            have c13b1 : ((s0_0.length : Int) != 0) = true := bne_iff_ne.mpr c13
            have c13b2 : ¬ (s0_0 = []) := fun h_ => c13 (by rw [h_]; rfl)
            obtain ⟨ji14, hji14⟩ : ∃ j_ : Int, (Int.tmod (wrap64 ((wrap64 (s0_1 + 1)) - 1)) (s0_0.length : Int)) = j_ := ⟨_, rfl⟩
            replace H : (if 0 ≤ (ji14) then (if (ji14) < (s0_0.length : Int) then (if 0 ≤ (Int.tmod (wrap64 ((wrap64 ((wrap64 ((wrap64 (s0_1 + 1)) - 1)) * 7)) + 3)) (s0_0.length : Int)) then (if (Int.tmod (wrap64 ((wrap64 ((wrap64 ((wrap64 (s0_1 + 1)) - 1)) * 7)) + 3)) (s0_0.length : Int)) < (s0_0.length : Int) then (if a1 = 0 then (none) else (some (Int.tmod (Go.bits .xor .i64 (wrap64 ((wrap64 ((wrap64 ((wrap64 ((wrap64 (rd s0_0 (ji14))) * 131)) + (wrap64 ((wrap64 (rd s0_0 (Int.tmod (wrap64 ((wrap64 ((wrap64 ((wrap64 (s0_1 + 1)) - 1)) * 7)) + 3)) (s0_0.length : Int)))) * 1117)))) + (wrap64 ((wrap64 ((wrap64 (s0_1 + 1)) - 1)) * 29)))) + (wrap64 ((wrap64 (Int.tdiv (wrap64 ((wrap64 (s0_1 + 1)) - 1)) (s0_0.length : Int))) * 53)))) (wrap64 (Int.tdiv (wrap64 ((wrap64 ((wrap64 ((wrap64 ((wrap64 (rd s0_0 (ji14))) * 131)) + (wrap64 ((wrap64 (rd s0_0 (Int.tmod (wrap64 ((wrap64 ((wrap64 ((wrap64 (s0_1 + 1)) - 1)) * 7)) + 3)) (s0_0.length : Int)))) * 1117)))) + (wrap64 ((wrap64 ((wrap64 (s0_1 + 1)) - 1)) * 29)))) + (wrap64 ((wrap64 (Int.tdiv (wrap64 ((wrap64 (s0_1 + 1)) - 1)) (s0_0.length : Int))) * 53)))) 64))) a1, (wrap64 (s0_1 + 1))))) else (none)) else (none)) else (none)) else (none)) = some (r1, r2) := by first | (rw [hji14] at H; exact H) | (simp only [hji14] at H ⊢; exact H)
            by_cases c15 : 0 ≤ (ji14)
            · rw [if_pos c15] at H
              have c15b0 : decide (0 ≤ (ji14)) = true := decide_eq_true c15
              clear c15
              by_cases c16 : (ji14) < (s0_0.length : Int)
              · rw [if_pos c16] at H
                have c16b0 : decide ((ji14) < (s0_0.length : Int)) = true := decide_eq_true c16
                clear c16
                obtain ⟨ji17, hji17⟩ : ∃ j_ : Int, (Int.tmod (wrap64 ((wrap64 ((wrap64 ((wrap64 (s0_1 + 1)) - 1)) * 7)) + 3)) (s0_0.length : Int)) = j_ := ⟨_, rfl⟩
                replace H : (if 0 ≤ (ji17) then (if (ji17) < (s0_0.length : Int) then (if a1 = 0 then (none) else (some (Int.tmod (Go.bits .xor .i64 (wrap64 ((wrap64 ((wrap64 ((wrap64 ((wrap64 (rd s0_0 (ji14))) * 131)) + (wrap64 ((wrap64 (rd s0_0 (ji17))) * 1117)))) + (wrap64 ((wrap64 ((wrap64 (s0_1 + 1)) - 1)) * 29)))) + (wrap64 ((wrap64 (Int.tdiv (wrap64 ((wrap64 (s0_1 + 1)) - 1)) (s0_0.length : Int))) * 53)))) (wrap64 (Int.tdiv (wrap64 ((wrap64 ((wrap64 ((wrap64 ((wrap64 (rd s0_0 (ji14))) * 131)) + (wrap64 ((wrap64 (rd s0_0 (ji17))) * 1117)))) + (wrap64 ((wrap64 ((wrap64 (s0_1 + 1)) - 1)) * 29)))) + (wrap64 ((wrap64 (Int.tdiv (wrap64 ((wrap64 (s0_1 + 1)) - 1)) (s0_0.length : Int))) * 53)))) 64))) a1, (wrap64 (s0_1 + 1))))) else (none)) else (none)) = some (r1, r2) := by first | (rw [hji17] at H; exact H) | (simp only [hji17] at H ⊢; exact H)
                by_cases c18 : 0 ≤ (ji17)
                · rw [if_pos c18] at H
                  have c18b0 : decide (0 ≤ (ji17)) = true := decide_eq_true c18
                  clear c18
                  by_cases c19 : (ji17) < (s0_0.length : Int)
                  · rw [if_pos c19] at H
                    have c19b0 : decide ((ji17) < (s0_0.length : Int)) = true := decide_eq_true c19
                    clear c19
                    by_cases c20 : a1 = 0
                    · rw [if_pos c20] at H
                      exact absurd H (by simp)
                    · rw [if_neg c20] at H
                      have c20b0 : (a1 == 0) = false := beq_eq_false_iff_ne.mpr c20
                      have c20b1 : (a1 != 0) = true := bne_iff_ne.mpr c20
                      simp only [Option.some.injEq, Prod.mk.injEq] at H
                      obtain ⟨rfl, rfl⟩ := H
                      obtain ⟨ASz21_0, cSz21_0, HGz21, hgz21, HSz21_0⟩ := HI0.out
                      have hcz21_0 := cellS59_0 HGz21
                      have hcz21_1 := cellS59_1 HGz21
                      have hfz21_1 := blk_frozen HGz21 1
                      clear HGz21 hgz21
                      have p122 : 0 ≤ ((ji14) : Int) := of_decide_eq_true (by first | (with_reducible assumption) | assumption)
                      have q122 : (ji14) < (s0_0.length : Int) := of_decide_eq_true (by first | (with_reducible assumption) | assumption)
                      obtain ⟨ad122, e122, hx122_0⟩ := Kd.at_int HSz21_0 (ji14) p122 q122
                      cases e122
                      replace hx122_0 := pw_cell_below HB.out hx122_0
                      replace p122 := eq_true p122
                      replace q122 := eq_true q122
                      have p123 : 0 ≤ ((ji17) : Int) := of_decide_eq_true (by first | (with_reducible assumption) | assumption)
                      have q123 : (ji17) < (s0_0.length : Int) := of_decide_eq_true (by first | (with_reducible assumption) | assumption)
                      obtain ⟨ad123, e123, hx123_0⟩ := Kd.at_int HSz21_0 (ji17) p123 q123
                      obtain rfl : ad122 = ad123 := (by injection e123)
                      replace hx123_0 := pw_cell_below HB.out hx123_0
                      replace p123 := eq_true p123
                      replace q123 := eq_true q123
                      go_wp2
                      repeat (go_quiet (fail); try go_wp2)
                      go_ret
                      exact ⟨by first | rfl | (simp [errW_none, errW_some] <;> rfl) | (simp only [← hji14, ← hji17]; first | rfl | (simp [errW_none, errW_some] <;> rfl)) | (simp [*, errW_none, errW_some] <;> rfl), by repeat (first | (with_reducible first | exact HI0.out | apply IsS59.alloc | apply IsS59.drewN | apply IsS59.drew | apply IsS59.set_1) | exact HI0.out), by repeat (first | (with_reducible first | exact HB.out | apply below_alloc | apply pw_below_drewN | apply below_drew1 | refine below_set ?_ (IsS59.ge HI0.out)) | exact HB.out), by repeat (first | (with_reducible first | exact HK.out | apply KeepBut.set_ | apply keep_drewN | apply keep_drew | apply keep_alloc) | exact HK.out)⟩
                  · rw [if_neg c19] at H
                    exact absurd H (by simp)
                · rw [if_neg c18] at H
                  exact absurd H (by simp)
              · rw [if_neg c16] at H
                exact absurd H (by simp)
            · rw [if_neg c15] at H
              exact absurd H (by simp)

/-! ### spec_l6Rd_of: function 47 -/
def spec_l6Rd_of.f (k : Nat) (s0_0 : List Int) (s0_1 : Int) (l1 : List ByteArray) : Option (ByteArray × Int) := (spec_l6Rd_pick.f k s0_0 s0_1 (l1.length : Int)).bind fun bt124 => (if 0 ≤ bt124.1 then (if bt124.1 < (l1.length : Int) then (some (rdOf ByteArray.empty l1 bt124.1, bt124.2)) else (none)) else (none))
theorem spec_l6Rd_of.mono : ∀ a0 a1 a2 k, LeO (spec_l6Rd_of.f k a0 a1 a2) (spec_l6Rd_of.f (k + 1) a0 a1 a2) := by
  intro a0 a1 a2 k
  unfold spec_l6Rd_of.f
  repeat' first
      | (with_reducible exact spec_l6Rd_pick.mono _ _ _ _)
      | (with_reducible exact LeO.refl _)
      | (with_reducible exact LeO.none _)
      | (with_reducible refine LeO.ite ?_ ?_)
      | (with_reducible refine LeO.bind ?_ (fun _ => ?_))
      | exact spec_l6Rd_pick.mono _ _ _ _
      | exact LeO.none _
      | refine LeO.ite ?_ ?_
      | refine LeO.bind ?_ (fun _ => ?_)
set_option maxHeartbeats 8000000 in
set_option maxRecDepth 100000 in
theorem spec_l6Rd_of.calls (k : Nat) (g : Nat) (s0_0 : List Int) (s0_1 : Int) (A1 : Option Addr) (c1 : Nat) (l1 : List ByteArray) (r1 : ByteArray) (r2 : Int) (w0 w : World) (hI : IsS59 w0 w g s0_0 s0_1) (hB : Below w0.heap.size w0 w) (hr1 : Kd.C Kd.string w A1 l1.length l1) (hc1 : l1.length ≤ c1) (hf1 : ∀ ad, A1 = some ad → 0 < l1.length → ad.block ≠ g) (h : spec_l6Rd_of.f k s0_0 s0_1 l1 = some (r1, r2)) :
    Calls Try.prog 47 #[.pointer (some ⟨g, 0, none⟩), .slice A1 l1.length c1] w fun e w' => e = .returned (.string r1) ∧ IsS59 w0 w' g s0_0 r2 ∧ Below w0.heap.size w0 w' ∧ KeepBut w w' g none := by
  have HR1 := Aside0.mk hr1
  have HC1 := Aside0.mk hc1
  clear hr1 hc1
  have HI0 := Aside0.mk hI
  have HK := Aside0.mk (KeepBut.refl w g none)
  have HL := Aside0.mk hB.size
  clear hI
  have HW0 := Aside0.mk hB.size
  have HB := Aside0.mk hB
  clear hB
  have H : ((spec_l6Rd_pick.f k s0_0 s0_1 (l1.length : Int)).bind fun bt124 => (if 0 ≤ bt124.1 then (if bt124.1 < (l1.length : Int) then (some (rdOf ByteArray.empty l1 bt124.1, bt124.2)) else (none)) else (none))) = some (r1, r2) := h
  clear h
  replace H := Option.bind_eq_some_iff.mp H
  obtain ⟨⟨t124, t125⟩, A30, H⟩ := H
  replace H : (if 0 ≤ t124 then (if t124 < (l1.length : Int) then (some (rdOf ByteArray.empty l1 t124, t125)) else (none)) else (none)) = some (r1, r2) := H
  have A3 := Aside0.mk A30
  clear A30
  by_cases c4 : 0 ≤ t124
  · rw [if_pos c4] at H
    have c4b0 : decide (0 ≤ t124) = true := decide_eq_true c4
    clear c4
    by_cases c5 : t124 < (l1.length : Int)
    · rw [if_pos c5] at H
      have c5b0 : decide (t124 < (l1.length : Int)) = true := decide_eq_true c5
      clear c5
      simp only [Option.some.injEq, Prod.mk.injEq] at H
      obtain ⟨rfl, rfl⟩ := H
      go_enter Try.func47, Try.ntmps47
      go_wp2_with (first | ((with_reducible refine gate_callee (f := 46) rfl ?_); refine goesL_ (some 9) rfl rfl Try.func46 (by kernel_rfl) rfl #[.pointer (some ⟨g, 0, none⟩), .int .i64 (l1.length : Int)] rfl (by (try simp only [List.map_toArray, List.map_cons, List.map_nil]); first | done | rfl | (simp only [List.length_drop, List.length_take]; rfl)) ?_; (with_reducible refine (spec_l6Rd_pick.calls k g s0_0 s0_1 (l1.length : Int) t124 t125 w0 _ ?side1 ?side2 A3.out).mono ?_); (case side1 => repeat (first | (with_reducible first | exact HI0.out | apply IsS59.alloc | apply IsS59.drewN | apply IsS59.drew | apply IsS59.set_1) | exact HI0.out)); (case side2 => repeat (first | (with_reducible first | exact HB.out | apply below_alloc | apply pw_below_drewN | apply below_drew1 | refine below_set ?_ (IsS59.ge HI0.out)) | exact HB.out)); rintro e w6 ⟨rfl, hi, hb, hk⟩; refine ⟨_, rfl, ?_⟩; have n0_ := Aside0.mk (KeepBut.trans (by repeat (first | (with_reducible first | exact HK.out | apply KeepBut.set_ | apply keep_drewN | apply keep_drew | apply keep_alloc) | exact HK.out)) hk (.inl rfl)); have n1_ := Aside0.mk (hb); have n2_ := Aside0.mk (hi); clear HK; clear HB; clear HI0; have HK := n0_; have HB := n1_; have HI0 := n2_; clear n0_ n1_ n2_; (try clear hb); (try clear hb2); (try clear hk); (try clear hi); have p126 : 0 ≤ (t124 : Int) := of_decide_eq_true (by first | (with_reducible assumption) | assumption); have q126 : t124 < (l1.length : Int) := of_decide_eq_true (by first | (with_reducible assumption) | assumption); obtain ⟨ad126, e126, hx126_0⟩ := Kd.at_string HR1.out t124 p126 q126; cases e126; replace hx126_0 := keep_cell HK.out hx126_0 (by first | (rw [add_block]; exact hf1 _ rfl (by omega)) | exact hf1 _ rfl (by omega) | exact hf1 ad126 rfl (by omega)); replace p126 := eq_true p126; replace q126 := eq_true q126))
      go_ret
      exact ⟨by first | rfl | (simp [errW_none, errW_some] <;> rfl) | (simp [*, errW_none, errW_some] <;> rfl), by repeat (first | (with_reducible first | exact HI0.out | apply IsS59.alloc | apply IsS59.drewN | apply IsS59.drew | apply IsS59.set_1) | exact HI0.out), by repeat (first | (with_reducible first | exact HB.out | apply below_alloc | apply pw_below_drewN | apply below_drew1 | refine below_set ?_ (IsS59.ge HI0.out)) | exact HB.out), by repeat (first | (with_reducible first | exact HK.out | apply KeepBut.set_ | apply keep_drewN | apply keep_drew | apply keep_alloc) | exact HK.out)⟩
    · rw [if_neg c5] at H
      exact absurd H (by simp)
  · rw [if_neg c4] at H
    exact absurd H (by simp)

end Go.Proofs.Ytdjenclegglmfaa.PFnHeavySteps
