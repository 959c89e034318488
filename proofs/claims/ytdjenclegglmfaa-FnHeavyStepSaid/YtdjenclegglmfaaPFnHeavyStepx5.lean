-- Written by a program of this session over the kit's printer, with contracts proved by hand; Lean checks it.
import Derived.Test.YtdjenclegglmfaaPFnHeavyStepx0
import Derived.Test.YtdjenclegglmfaaPFnHeavyStepx1
import Derived.Test.YtdjenclegglmfaaPFnHeavyStepx2
namespace Go.Proofs.Ytdjenclegglmfaa.PFnHeavyStep
open Go.RowKit Go.Proofs.YtdjenclegglmfaaW.PrintWords Go.Proofs.YtdjenclegglmfaaW.PrintLast Go.Proofs.YtdjenclegglmfaaW.PrintMore
attribute [local go_sem] max2_int min2_int max_two min_two max_three min_three max_four min_four   -- for this text's walks alone
set_option linter.unusedVariables false
set_option linter.unusedSimpArgs false

/-! ### impl_HeavyStep: function 34 -/
-- The numbers of functions and types are those of the seat of the heavy group.
theorem few_calls (s : ByteArray) (w : World) (hs : s.size ≤ 140737488351232) {B : Nat} {m c : Pre → Nat} (hT : Tree w B m c) (ha : s.data.toList.all ab = true) (bt bn : Nat) (need : Int)
    (h1 : w.heap[bt]? = some (.cells #[.pointer (some ⟨m [], 0, none⟩)] 53 (0, 0))) (h2 : w.heap[bn]? = some (.cells #[.int .i64 need] 3 (0, 0))) :
    Calls Try.prog 56 #[.string s, .pointer (some ⟨bt, 0, none⟩), .pointer (some ⟨bn, 0, none⟩)] w fun e w' => e = .returned (.bool (decide ((c s.data.toList : Int) < need))) ∧ Below w.heap.size w w' := by
  have hc1 : w.cell? ⟨bt, 0, none⟩ = some (.pointer (some ⟨m [], 0, none⟩)) := h_cell h1 0
  have hlt := lt_heap h2
  have hcount := fun W => count_calls s W hs (B := B) (m := m) (c := c)
  have HCO := Go.Lib.hid hcount
  have HT := Go.Lib.hid hT
  have HA := Go.Lib.hid ha
  have H2 := Go.Lib.hid h2
  clear hcount hT ha h1 h2
  have hc2 : w.cell? ⟨bn, 0, none⟩ = some (.int .i64 need) := h_cell H2.out 0
  go_enter Try.func56, Try.ntmps56
  go_wp2
  go_region_with (go_at_call 53; refine (HCO.out _ (HT.out.below (Nat.le_refl _) (by repeat (first | exact Below.refl _ _ | apply pw_below_drewN | apply below_drew1))) HA.out).mono ?_; rintro e w' ⟨rfl, hb⟩; have hc3 : w'.cell? ⟨bn, 0, none⟩ = some (.int .i64 need) := h_cell ((hb.block _ hlt).trans H2.out) 0; have hbw := (show Below w.heap.size w w' from Below.trans (by repeat (first | exact Below.refl _ _ | apply pw_below_drewN | apply below_drew1)) hb))
  all_goals (go_wp2; go_ret; exact ⟨rfl, hbw⟩)
theorem take_s (l : List ByteArray) {k : Nat} (h : k < l.length) : l.take (k + 1) = l.take k ++ [l.getD k ByteArray.empty] := by
  rw [List.getD_eq_getElem?_getD, List.getElem?_eq_getElem h, Option.getD_some, List.take_append_getElem h]
theorem mem_s (l : List ByteArray) {k : Nat} (h : k < l.length) : l.getD k ByteArray.empty ∈ l := by
  rw [List.getD_eq_getElem?_getD, List.getElem?_eq_getElem h, Option.getD_some]
  exact List.getElem_mem h
theorem cur_s {cur : Array Value} {l : List ByteArray} (hc : cur.toList.take l.length = l.map .string) {k : Nat} (h : k < l.length) : cur[k]? = some (.string (l.getD k ByteArray.empty)) := by
  have h2 := congrArg (fun x => x[k]?) hc
  simp only [List.getElem?_take, List.getElem?_map] at h2
  rw [if_pos h] at h2
  rw [← Array.getElem?_toList, h2, List.getD_eq_getElem?_getD, List.getElem?_eq_getElem h]
  rfl
def firstBad (del : ByteArray → Bool) (l : List ByteArray) : Int := if l.any del = true then ((l.takeWhile fun s => !del s).length : Nat) else -1
theorem firstBad_at {del : ByteArray → Bool} {l : List ByteArray} {k : Nat} (hk : k < l.length) (h1 : (l.take k).any del = false) (h2 : del (l.getD k ByteArray.empty) = true) : firstBad del l = (k : Nat) := by
  unfold firstBad
  rw [if_pos (List.any_eq_true.2 ⟨_, mem_s l hk, h2⟩)]
  congr 1
  induction l generalizing k with
  | nil => simp at hk
  | cons x xs ih =>
    cases k with
    | zero => simp at h2; simp [h2]
    | succ k =>
      simp at h1
      have hx : del x = false := by simpa using h1.1
      rw [List.takeWhile_cons, hx]
      simp only [Bool.not_false, if_true, List.length_cons]
      congr 1
      exact ih (by simpa using hk) (by simpa using h1.2) (by simpa using h2)
set_option maxHeartbeats 1000000 in
theorem idx_calls (pt pn : Value) (g cap : Nat) (l : List ByteArray) (cur : Array Value) (w : World) (hh : w.heap[g]? = some (.cells cur 9 (0, 0))) (hcur : cur.toList.take l.length = l.map .string) (hl : l.length ≤ 100) (del : ByteArray → Bool)
    (hd : ∀ W s, s ∈ l → Below g w W → Calls Try.prog 56 #[.string s, pt, pn] W fun e w' => e = .returned (.bool (del s)) ∧ Below W.heap.size W w') :
    Calls Try.prog 57 #[.slice (some ⟨g, 0, none⟩) l.length cap, .func (.func 56) #[] #[pt, pn]] w fun e w' => e = .returned (.int .i64 (firstBad del l)) ∧ Below w.heap.size w w' := by
  have hlt := lt_heap hh
  have HH := Go.Lib.hid hh
  have HC := Go.Lib.hid hcur
  have HD := Go.Lib.hid hd
  clear hh hcur hd
  go_enter Try.func57, Try.ntmps57
  go_wp2
  go_loopw [8] (fun v8 W => ∃ k : Nat, k ≤ l.length ∧ v8 = .int .i64 k ∧ (l.take k).any del = false ∧ Below w.heap.size w W) (fun v8 _ => l.length - (intOf v8).toNat)
  case atStart => exact ⟨0, by omega, rfl, by simp, Below.refl _ _⟩
  case round =>
    obtain ⟨k, hk, rfl, hall, hb⟩ := hrel
    have HA := Go.Lib.hid hall
    clear hall
    by_cases hkt : k < l.length
    · have hc : wr.cell? ⟨g, k, none⟩ = some (.string (l.getD k ByteArray.empty)) := by
        rw [h_cell ((hb.block g hlt).trans HH.out) k]
        exact cur_s HC.out hkt
      have HT := Go.Lib.hid (take_s l hkt)
      have HF := Go.Lib.hid (firstBad_at (del := del) hkt HA.out)
      have hcall := fun W hW => HD.out W _ (mem_s l hkt) hW
      generalize l.getD k ByteArray.empty = s at *
      cases hp : del s
      · rw [hp] at hcall
        have HP := Go.Lib.hid hp
        have HCA := Go.Lib.hid hcall
        clear hp hcall
        go_wp2_with (go_at_call 56; refine (HCA.out _ (hb.mono (by omega))).mono ?_; rintro e w' ⟨rfl, hb2⟩)
        go_roundw
        case rel => exact ⟨k + 1, by omega, by go_num, by rw [HT.out, List.any_append, HA.out]; simp [HP.out], hb.trans (hb2.mono hb.size)⟩
        case measure => simp [intOf]; omega
      · rw [hp] at hcall
        have HX := Go.Lib.hid (HF.out hp)
        have HCA := Go.Lib.hid hcall
        clear hp hcall
        go_wp2_with (go_at_call 56; refine (HCA.out _ (hb.mono (by omega))).mono ?_; rintro e w' ⟨rfl, hb2⟩)
        go_ret
        exact ⟨by rw [HX.out]; rfl, hb.trans (hb2.mono hb.size)⟩
    · have hk2 : k = l.length := by omega
      subst hk2
      have hx : firstBad del l = -1 := by
        have := HA.out
        rw [List.take_of_length_le (by omega)] at this
        unfold firstBad
        rw [this]
        rfl
      have HX := Go.Lib.hid hx
      clear hx
      go_wp2
      go_ret
      exact ⟨by rw [HX.out]; rfl, hb⟩
theorem filter_take (del : ByteArray → Bool) (l : List ByteArray) {k : Nat} (h : k < l.length) : (l.take (k + 1)).filter (fun s => !del s) = (l.take k).filter (fun s => !del s) ++ (if del (l.getD k ByteArray.empty) = true then [] else [l.getD k ByteArray.empty]) := by
  rw [take_s l h, List.filter_append]
  congr 1
  generalize l.getD k ByteArray.empty = s
  cases hd : del s <;> simp [hd]
theorem firstBad_split {del : ByteArray → Bool} {l : List ByteArray} (h : l.any del = true) : ∃ k : Nat, k < l.length ∧ firstBad del l = (k : Nat) ∧ (l.take (k + 1)).filter (fun s => !del s) = l.take k := by
  obtain ⟨x, hx, hdx⟩ := List.any_eq_true.1 h
  unfold firstBad
  rw [if_pos h]
  refine ⟨_, ?_, rfl, ?_⟩
  · clear hdx hx
    induction l with
    | nil => simp at h
    | cons a xs ih =>
      rw [List.takeWhile_cons]
      cases hd : del a
      · simp [hd] at h
        simp
        exact ih (by simpa using h)
      · simp
  · clear hdx hx
    induction l with
    | nil => simp at h
    | cons a xs ih =>
      rw [List.takeWhile_cons]
      cases hd : del a
      · simp [hd] at h
        have := ih (by simpa using h)
        simp [hd]
        simpa using this
      · simp [hd]
theorem List.take_set_succ_ {α : Type} {l : List α} {i : Nat} {x : α} (h : i < l.length) : (l.set i x).take (i + 1) = l.take i ++ [x] := by
  rw [List.take_succ_eq_append_getElem (by simpa using h)]
  simp [List.take_set_of_le]
set_option maxHeartbeats 2000000 in
theorem del_calls (pt pn : Value) (g cap : Nat) (l : List ByteArray) (cur : Array Value) (w : World) (hh : w.heap[g]? = some (.cells cur 9 (0, 0))) (hcur : cur.toList.take l.length = l.map .string) (hl : l.length ≤ 100) (hcap : l.length ≤ cap) (hsz : cur.size = cap) (del : ByteArray → Bool)
    (hd : ∀ W s, s ∈ l → Below g w W → Calls Try.prog 56 #[.string s, pt, pn] W fun e w' => e = .returned (.bool (del s)) ∧ Below W.heap.size W w') :
    Calls Try.prog 55 #[.slice (some ⟨g, 0, none⟩) l.length cap, .func (.func 56) #[] #[pt, pn]] w fun e w' => ∃ cur' : Array Value, e = .returned (.slice (some ⟨g, 0, none⟩) (l.filter fun s => !del s).length cap) ∧ w'.heap[g]? = some (.cells cur' 9 (0, 0)) ∧ cur'.size = cap ∧ cur'.toList.take (l.filter fun s => !del s).length = (l.filter fun s => !del s).map .string ∧ Below g w w' := by
  have hlt := lt_heap hh
  have hidx := fun W (hW : Below w.heap.size w W) => idx_calls pt pn g cap l cur W ((hW.block g hlt).trans hh) hcur hl del (fun W2 s hs hb => hd W2 s hs ((hW.mono (by omega)).trans hb))
  have HI := Go.Lib.hid hidx
  have HH := Go.Lib.hid hh
  have HC := Go.Lib.hid hcur
  have HD := Go.Lib.hid hd
  clear hh hcur hd hidx
  cases hany : l.any del
  · have hf : firstBad del l = -1 := by unfold firstBad; rw [hany]; rfl
    have hfl : (l.filter fun s => !del s) = l := by
      rw [List.filter_eq_self]
      intro s hs
      have := List.any_eq_false.1 hany s hs
      simpa using this
    rw [hfl]
    rw [hf] at HI
    clear hany hf hfl
    go_enter Try.func55, Try.ntmps55
    go_wp2_with (go_at_call 57; refine (HI.out _ (Below.refl _ _)).mono ?_; rintro e w' ⟨rfl, hb⟩)
    go_ret
    exact ⟨cur, rfl, (hb.block g hlt).trans HH.out, hsz, HC.out, hb.mono (by omega)⟩
  · obtain ⟨i0, hi0, hf, hfi⟩ := firstBad_split hany
    rw [hf] at HI
    have HFI := Go.Lib.hid hfi
    have hne : (((i0 : Nat) : Int) == -1) = false := by simp
    clear hany hf hfi
    go_enter Try.func55, Try.ntmps55
    go_wp2_with (go_at_call 57; refine (HI.out _ (Below.refl _ _)).mono ?_; rintro e w1 ⟨rfl, hb0⟩)
    go_loopw [6, 5] (fun v6 v5 W => ∃ (j i : Nat) (cur1 : Array Value), i < j ∧ j ≤ l.length ∧ v6 = .int .i64 j ∧ v5 = .int .i64 i ∧ W.heap[g]? = some (.cells cur1 9 (0, 0)) ∧ cur1.size = cap ∧ cur1.toList.take i = ((l.take j).filter fun s => !del s).map .string ∧ i = ((l.take j).filter fun s => !del s).length ∧ (∀ q, j ≤ q → cur1[q]? = cur[q]?) ∧ Below g w W) (fun v6 _ _ => l.length - (intOf v6).toNat)
    case atStart =>
      refine ⟨i0 + 1, i0, cur, by omega, by omega, by go_num, rfl, (hb0.block g hlt).trans HH.out, hsz, ?_, ?_, fun q _ => rfl, hb0.mono (by omega)⟩
      · rw [HFI.out, List.map_take, ← HC.out, List.take_take]
        congr 1
        omega
      · rw [HFI.out, List.length_take]
        omega
    case round =>
      clear hb0 HI HFI hi0
      obtain ⟨j, i, cur1, hij, hj, rfl, rfl, hg1, hsz1, htk, hlen, hrest, hb⟩ := hrel
      have HTK := Go.Lib.hid htk
      have HRE := Go.Lib.hid hrest
      have HLE := Go.Lib.hid hlen
      clear htk hrest hlen
      by_cases hjt : j < l.length
      · have hc : wr.cell? ⟨g, j, none⟩ = some (.string (l.getD j ByteArray.empty)) := by
          rw [h_cell hg1 j, HRE.out j (by omega)]
          exact cur_s HC.out hjt
        obtain ⟨x0, hx0⟩ : ∃ x, cur1[i]? = some x := ⟨_, Array.getElem?_eq_getElem (by omega)⟩
        have HF := Go.Lib.hid (filter_take del l hjt)
        have hcall := fun W hW => HD.out W _ (mem_s l hjt) hW
        generalize l.getD j ByteArray.empty = s at *
        cases hp : del s
        · rw [hp] at hcall HF
          have HCA := Go.Lib.hid hcall
          have HG := Go.Lib.hid hg1
          clear hp hcall hg1
          go_wp2_with (go_at_call 56; refine (HCA.out _ hb).mono ?_; rintro e w2 ⟨rfl, hb2⟩; have hg2 := (hb2.block g (lt_heap HG.out)).trans HG.out; have hci2 : w2.cell? ⟨g, i, none⟩ = some x0 := (h_cell hg2 i).trans hx0; have hfi2 := h_frozen hg2 i)
          go_roundw
          case rel =>
            have hst := h_set (i := i) hg2 (.string s)
            refine ⟨j + 1, i + 1, _, by omega, by omega, by go_num, by go_num, hst, by simpa using hsz1, ?_, ?_, fun q hq => ?_, ?_⟩
            · rw [HF.out, List.map_append, ← HTK.out, if_neg (by decide)]
              show _ = List.take i cur1.toList ++ [Value.string s]
              rw [Array.toList_setIfInBounds, List.take_set_succ_ (by rw [Array.length_toList]; omega)]
            · rw [HF.out, if_neg (by decide), List.length_append, ← HLE.out]; rfl
            · rw [Array.getElem?_setIfInBounds_ne (by omega)]
              exact HRE.out q (by omega)
            · exact (hb.trans (hb2.mono (by have := lt_heap HG.out; omega))).setCell (Nat.le_refl _) _
          case measure => simp [intOf]; omega
        · rw [hp] at hcall HF
          have HCA := Go.Lib.hid hcall
          have HG := Go.Lib.hid hg1
          clear hp hcall hg1 hx0
          go_wp2_with (go_at_call 56; refine (HCA.out _ hb).mono ?_; rintro e w2 ⟨rfl, hb2⟩)
          go_roundw
          case rel => exact ⟨j + 1, i, cur1, by omega, by omega, by go_num, rfl, (hb2.block g (lt_heap HG.out)).trans HG.out, hsz1, by rw [HF.out, if_pos trivial, List.append_nil]; exact HTK.out, by rw [HF.out, if_pos trivial, List.append_nil]; exact HLE.out, fun q hq => HRE.out q (by omega), hb.trans (hb2.mono (by have := lt_heap HG.out; omega))⟩
          case measure => simp [intOf]; omega
      · have hj2 : j = l.length := by omega
        subst hj2
        obtain ⟨i9, hi9, hz9, hsz9, _⟩ := info_parts info9
        have hcf : ∀ W : World, (Instr.slice 22 (.slice (some ⟨g, 0, none⟩) l.length cap) (some (.int .i64 (i : Int))) none none).run Try.prog W = .ok (.slice (some ⟨g, i, none⟩) (l.length - i) (cap - i)) W := fun W => by
          have := cut_from (P := Try.prog) 22 9 .i64 Try.underlying22 hi9 1 hsz9 (some ⟨g, 0, none⟩) l.length cap (i : Int) (by omega) (by omega) W
          rw [this, if_neg (by omega)]
          simp [Addr.add] <;> omega
        have hct : ∀ W : World, (Instr.slice 22 (.slice (some ⟨g, 0, none⟩) l.length cap) none (some (.int .i64 (i : Int))) none).run Try.prog W = .ok (.slice (some ⟨g, 0, none⟩) i cap) W := fun W => by
          have := cut_to (P := Try.prog) 22 9 .i64 Try.underlying22 hi9 (some ⟨g, 0, none⟩) l.length cap (i : Int) (by omega) (by omega) hcap W
          rw [this]
          rfl
        have hcl : ∀ ty, (Builtin.clear_ #[22] ty #[.slice (some ⟨g, i, none⟩) (l.length - i) (cap - i)]).run Try.prog wr = .ok (.tuple #[]) (wr.setCells g i (List.replicate (l.length - i) (.string ⟨#[]⟩))) := fun ty => by
          refine Lib.run_clear_slice wr 22 9 ty (.string ⟨#[]⟩) Try.underlying22 (fun W => ?_) rfl rfl g i _ _ (by omega) (fun q hq => ?_) (fun q hq => h_frozen hg1 _)
          · simp [go_sem]
          · rw [h_cell hg1, Array.getElem?_eq_getElem (by omega)]; rfl
        obtain ⟨cur2, hg2, hsz2, hl2⟩ := setCells_row (List.replicate (l.length - i) (.string ⟨#[]⟩)) i wr cur1 hg1 (by rw [List.length_replicate]; omega)
        obtain ⟨s1, s2, s3, s4⟩ := setCells_same g (List.replicate (l.length - i) (.string ⟨#[]⟩)) i wr
        have hb3 : Below g wr (wr.setCells g i (List.replicate (l.length - i) (.string ⟨#[]⟩))) := ⟨s1, s2, s3, by rw [s4]; exact Nat.le_refl _, fun k hk => setCells_far _ _ k (by omega)⟩
        have hb4 := hb.trans hb3
        have HG2 := Go.Lib.hid hg2
        have HL2 := Go.Lib.hid hl2
        generalize wr.setCells g i (List.replicate (l.length - i) (.string ⟨#[]⟩)) = w4 at *
        clear hi9 hz9 hsz9 s1 s2 s3 s4 hg2 hl2 hg1
        go_wp2
        go_ret
        have hll : l.take l.length = l := List.take_of_length_le (by omega)
        have h1 := HTK.out
        have h2 := HLE.out
        rw [hll] at h1 h2
        refine ⟨cur2, by rw [← h2]; rfl, HG2.out, by omega, ?_, hb4⟩
        rw [← h2, ← h1, HL2.out, List.append_assoc, List.take_append_of_le_length (by rw [List.length_take, Array.length_toList]; omega), List.take_take, Nat.min_self]
theorem clip_calls (A : Option Addr) (n cap : Nat) (w : World) (hn : n ≤ cap) :
    Calls Try.prog 54 #[.slice A n cap] w fun e w' => e = .returned (.slice A n n) ∧ w' = w := by
  obtain ⟨i9, hi9, hz9, hsz9, _⟩ := info_parts info9
  go_enter Try.func54, Try.ntmps54
  go_wp2
  go_ret
  exact ⟨rfl, rfl⟩
theorem idx_nil (pt pn : Value) (w : World) :
    Calls Try.prog 57 #[.slice none 0 0, .func (.func 56) #[] #[pt, pn]] w fun e w' => e = .returned (.int .i64 (-1)) ∧ w' = w := by
  go_enter Try.func57, Try.ntmps57
  go_wp2
  go_loop [8] (fun v8 => v8 = .int .i64 0) (fun _ => 0)
  case atStart => rfl
  case round =>
    subst hrel
    go_wp2
    go_ret
    exact ⟨rfl, rfl⟩
theorem del_any (pt pn : Value) (v : Value) (l : List ByteArray) (base : Nat) (w : World) (hv : w.ownsRow base 9 1 v l.length (encs Value.string l)) (hbase : base ≤ w.heap.size) (hl : l.length ≤ 100) (del : ByteArray → Bool)
    (hd : ∀ W s, s ∈ l → Below base w W → Calls Try.prog 56 #[.string s, pt, pn] W fun e w' => e = .returned (.bool (del s)) ∧ Below W.heap.size W w') :
    Calls Try.prog 55 #[v, .func (.func 56) #[] #[pt, pn]] w fun e w' => ∃ A c, e = .returned (.slice A (l.filter fun s => !del s).length c) ∧ (l.filter fun s => !del s).length ≤ c ∧ Kd.F Kd.string w' (fun k => base ≤ k) A (l.filter fun s => !del s).length (l.filter fun s => !del s) ∧ Below base w w' := by
  obtain ⟨h1, ⟨rfl, h0⟩ | ⟨g, cap, cur, rfl, hg, hh, hnc, hcm, hcs, ht⟩⟩ := hv
  · obtain rfl := List.eq_nil_of_length_eq_zero h0
    have hi := idx_nil pt pn
    have HI := Go.Lib.hid hi
    clear hi hd h1
    go_enter Try.func55, Try.ntmps55
    go_wp2_with (go_at_call 57; refine (HI.out _).mono ?_; rintro e w' ⟨rfl, rfl⟩)
    go_ret
    exact ⟨none, 0, rfl, Nat.le_refl _, Kd.F_nil _ _ _, Below.refl _ _⟩
  · refine (del_calls pt pn g cap l cur w hh (by rw [Nat.mul_one] at ht; exact ht) hl hnc (by omega) del (fun W s hs hb => hd W s hs (hb.mono hg))).mono ?_
    rintro e w' ⟨cur', rfl, hg', hsz', ht', hb'⟩
    have hlen : (l.filter fun s => !del s).length ≤ cap := Nat.le_trans (List.length_filter_le _ _) hnc
    have ho : w'.ownsRow base 9 1 (.slice (some ⟨g, 0, none⟩) (l.filter fun s => !del s).length cap) (l.filter fun s => !del s).length (encs Value.string (l.filter fun s => !del s)) :=
      ⟨by rw [encs, List.length_map, Nat.mul_one], .inr ⟨g, cap, cur', rfl, hg, hg', hlen, hcm, by omega, by rw [Nat.mul_one, ht']; rfl⟩⟩
    have hR := Kd.R_of_own (h1 := fun _ => rfl) (ok := fun k => base ≤ k) ho (fun k hk => by
      have : g = k := by simpa [Value.ownBlock] using hk
      omega)
    exact ⟨some ⟨g, 0, none⟩, cap, rfl, hlen, (Kd.V_at (Kd.R_V (base' := base) hR)).2.2, hb'.mono hg⟩
def kept (l : List ByteArray) (need : Int) (s : ByteArray) : Bool := !decide (((cnt l s.data.toList : Nat) : Int) < need)
theorem few_ready (w w2 w3 : World) (a2 : Int) (l0 o : List ByteArray) (m : Pre → Nat) (hb2 : Below (w.alloc (.cells #[.int .i64 a2] 3)).heap.size (w.alloc (.cells #[.int .i64 a2] 3)) w2) (hb3 : Below w2.heap.size w2 w3) (hT : Tree w3 w2.heap.size m (cnt l0))
    (hok : ∀ s ∈ o, s.size ≤ 140737488351232 ∧ s.data.toList.all ab = true) :
    Below w.heap.size w (w3.alloc (.cells #[.pointer (some ⟨m [], 0, none⟩)] 53)) ∧ ∀ W s, s ∈ o → Below (w3.alloc (.cells #[.pointer (some ⟨m [], 0, none⟩)] 53)).heap.size (w3.alloc (.cells #[.pointer (some ⟨m [], 0, none⟩)] 53)) W →
      Calls Try.prog 56 #[.string s, .pointer (some ⟨w3.heap.size, 0, none⟩), .pointer (some ⟨w.heap.size, 0, none⟩)] W fun e w' => e = .returned (.bool (!kept l0 a2 s)) ∧ Below W.heap.size W w' := by
  have hb1 : Below w.heap.size w (w.alloc (.cells #[.int .i64 a2] 3)) := (Below.refl _ w).alloc (Nat.le_refl _) _
  have hz1 : (w.alloc (.cells #[.int .i64 a2] 3)).heap.size = w.heap.size + 1 := by simp
  have hb13 := hb2.trans (hb3.mono hb2.size)
  have hz4 : (w3.alloc (.cells #[.pointer (some ⟨m [], 0, none⟩)] 53)).heap.size = w3.heap.size + 1 := by simp
  have hb34 : Below w3.heap.size w3 (w3.alloc (.cells #[.pointer (some ⟨m [], 0, none⟩)] 53)) := (Below.refl _ w3).alloc (Nat.le_refl _) _
  have hb14 := hb13.trans (hb34.mono hb13.size)
  refine ⟨hb1.trans (hb14.mono hb1.size), fun W s hs hW => ?_⟩
  have := hb13.size
  have e : (!kept l0 a2 s) = decide (((cnt l0 s.data.toList : Nat) : Int) < a2) := by simp [kept]
  rw [e]
  refine few_calls s W (hok s hs).1 ((hT.below (Nat.le_refl _) hb34).below (Nat.le_refl _) hW) (hok s hs).2 w3.heap.size w.heap.size a2 ?_ ?_
  · rw [hW.block _ (by omega)]
    exact heap_new rfl
  · rw [hW.block _ (by omega), hb14.block _ (by omega)]
    exact heap_new rfl
def impl_HeavyStep.f (k : Nat) (a0 a1 : List ByteArray) (a2 : Int) : Option (List ByteArray) := (impl_WordsOk.f a0).bind fun t => if t = true then ((impl_HeavyNext.f k a1).bind fun o => if (o.length ≤ 100 ∧ ∀ s ∈ o, s.size ≤ 140737488351232 ∧ s.data.toList.all ab = true) then some (o.filter (kept a0 a2)) else none) else some []
theorem impl_HeavyStep.mono : ∀ a0 a1 a2 k, LeO (impl_HeavyStep.f k a0 a1 a2) (impl_HeavyStep.f (k + 1) a0 a1 a2) := by
  intro a0 a1 a2 k
  unfold impl_HeavyStep.f
  exact LeO.bind (LeO.refl _) (fun t => LeO.ite (LeO.bind (impl_HeavyNext.mono _ _) (fun _ => LeO.refl _)) (LeO.refl _))
set_option maxHeartbeats 2000000 in
theorem impl_HeavyStep.calls (k : Nat) (A0 : Option Addr) (c0 : Nat) (l0 : List ByteArray) (A1 : Option Addr) (c1 : Nat) (l1 : List ByteArray) (a2 : Int) (r : List ByteArray) (w : World) (hr0 : Kd.C Kd.string w A0 l0.length l0) (hc0 : l0.length ≤ c0) (hr1 : Kd.C Kd.string w A1 l1.length l1) (hc1 : l1.length ≤ c1) (h : impl_HeavyStep.f k l0 l1 a2 = some r) :
    Calls Try.prog 34 #[.slice A0 l0.length c0, .slice A1 l1.length c1, .int .i64 a2] w fun e w' => ∃ v0_ : Value, e = .returned (v0_) ∧ Kd.V Kd.string 9 w' w.heap.size (fun k_ => (w.heap.size ≤ k_)) v0_ r ∧ Below w.heap.size w w' := by
  unfold impl_HeavyStep.f at h
  obtain ⟨t, ht, h⟩ := Option.bind_eq_some_iff.1 h
  have hb1 : Below w.heap.size w (w.alloc (.cells #[.int .i64 a2] 3)) := (Below.refl _ w).alloc (Nat.le_refl _) _
  have HW := Go.Lib.hid ht
  have HR0 := Go.Lib.hid hr0
  have HC0 := Go.Lib.hid hc0
  have HR1 := Go.Lib.hid hr1
  have HC1 := Go.Lib.hid hc1
  clear hr0 hc0 hr1 hc1
  cases t
  · rw [if_neg (by decide)] at h
    obtain rfl := Option.some.inj h
    clear h ht
    go_enter Try.func34, Try.ntmps34
    go_wp2_with (go_at_call 21; refine (impl_WordsOk.calls A0 c0 l0 false _ (Kd.C_below HR0.out hb1) HC0.out HW.out).mono ?_; rintro e w2 ⟨rfl, hb⟩)
    go_ret
    exact ⟨_, rfl, Kd.V_nil _ _ _ _ _, hb1.trans (hb.mono hb1.size)⟩
  · rw [if_pos rfl] at h
    obtain ⟨h12, hs⟩ := words_of ht
    have HS := Go.Lib.hid hs
    obtain ⟨o, ho, h⟩ := Option.bind_eq_some_iff.1 h
    split at h
    · rename_i hok
      obtain rfl := Option.some.inj h
      have HO := Go.Lib.hid ho
      have HOK := Go.Lib.hid hok
      have hbn : (w.alloc (.cells #[.int .i64 a2] 3)).heap[w.heap.size]? = some (.cells #[.int .i64 a2] 3 (0, 0)) := heap_new rfl
      have HBN := Go.Lib.hid hbn
      have HB1 := Go.Lib.hid hb1
      have hz1 : (w.alloc (.cells #[.int .i64 a2] 3)).heap.size = w.heap.size + 1 := by simp
      clear h ho hok hs ht hbn hb1
      go_enter Try.func34, Try.ntmps34
      go_wp2_with (first | (go_at_call 21; refine (impl_WordsOk.calls A0 c0 l0 true _ (Kd.C_below HR0.out HB1.out) HC0.out HW.out).mono ?_; rintro e w2 ⟨rfl, hb2⟩) | (go_at_call 52; refine (treeOf_calls A0 c0 l0 _ (Kd.C_below (Kd.C_below HR0.out HB1.out) hb2) h12 HS.out).mono ?_; rintro e w3 ⟨m, rfl, hT, hb3⟩; obtain ⟨hb4, hfew⟩ := few_ready w w2 w3 a2 l0 o m hb2 hb3 hT HOK.out.2; have HF := Go.Lib.hid hfew; clear hfew hT) | (go_at_call 25; refine (impl_HeavyNext.calls k A1 c1 l1 o _ (Kd.C_below HR1.out hb4) HC1.out HO.out).mono ?_; rintro e w5 ⟨v5, rfl, hR, hb5⟩; have HOWN := Go.Lib.hid (Kd.own_of_R (enc := Value.string) (h1 := fun _ => rfl) hR); clear hR) | (go_at_call 55; refine (del_any _ _ v5 o _ _ HOWN.out hb5.size HOK.out.1 (fun s => !kept l0 a2 s) (fun W s hs hW => HF.out W s hs (hb5.trans hW))).mono ?_; rintro e w6 ⟨A6, c6, rfl, hle, hFF, hb6⟩; simp only [Bool.not_not] at hle hFF) | (go_at_call 54; refine (clip_calls A6 _ c6 _ hle).mono ?_; rintro e w7 ⟨rfl, rfl⟩))
      go_ret
      have hbw := hb4.trans ((hb5.trans hb6).mono hb4.size)
      have hF2 := Kd.F_mono hFF (fun k hk => Nat.le_trans hb4.size hk)
      refine ⟨_, rfl, ?_, hbw⟩
      have hV := Kd.V_mk (d := Kd.string) (e := 9) (base := w.heap.size) (Nat.le_refl _) hF2
      exact hV
    · cases h

/-! ### spec_l41Heads: function 49 -/
def spec_l41Heads.l0 : Nat → List ByteArray → Int → Option (Bool)
  | 0, _, _ => none
  | k + 1, x0, x3 => if x3 < (x0.length : Int) then (if 0 ≤ x3 then ((spec_l41Head.f k (rdOf ByteArray.empty x0 x3)).bind fun t151 => (if t151 = true then (if ((rdOf ByteArray.empty x0 x3).size : Int) ≥ 3 then (some false) else (spec_l41Heads.l0 k x0 (wrap64 (x3 + 1)))) else (some false))) else (none)) else (some (decide ((x0.length : Int) ≤ 12)))
def spec_l41Heads.f (k : Nat) (l0 : List ByteArray) : Option (Bool) := spec_l41Heads.l0 k l0 0
theorem spec_l41Heads.mono_l : ∀ k, (∀ y0 y1, LeO (spec_l41Heads.l0 k y0 y1) (spec_l41Heads.l0 (k + 1) y0 y1))
  | 0 => fun _ _ r h => by simp [spec_l41Heads.l0] at h
  | k + 1 => by
    have ih0 := spec_l41Heads.mono_l k
    · intro y0 y1
      unfold spec_l41Heads.l0
      repeat' first
      | (with_reducible exact ih0 _ _)
      | (with_reducible exact spec_l41Head.mono _ _)
      | (with_reducible exact LeO.refl _)
      | (with_reducible exact LeO.none _)
      | (with_reducible refine LeO.ite ?_ ?_)
      | (with_reducible refine LeO.bind ?_ (fun _ => ?_))
      | exact ih0 _ _
      | exact spec_l41Head.mono _ _
      | exact LeO.none _
      | refine LeO.ite ?_ ?_
      | refine LeO.bind ?_ (fun _ => ?_)
theorem spec_l41Heads.mono : ∀ a0 k, LeO (spec_l41Heads.f k a0) (spec_l41Heads.f (k + 1) a0) := by
  intro a0 k
  have ih0 := spec_l41Heads.mono_l k
  unfold spec_l41Heads.f
  repeat' first
      | (with_reducible exact ih0 _ _)
      | (with_reducible exact spec_l41Head.mono _ _)
      | (with_reducible exact LeO.refl _)
      | (with_reducible exact LeO.none _)
      | (with_reducible refine LeO.ite ?_ ?_)
      | (with_reducible refine LeO.bind ?_ (fun _ => ?_))
      | exact ih0 _ _
      | exact spec_l41Head.mono _ _
      | exact LeO.none _
      | refine LeO.ite ?_ ?_
      | refine LeO.bind ?_ (fun _ => ?_)
set_option maxHeartbeats 8000000 in
set_option maxRecDepth 100000 in
theorem spec_l41Heads.calls (k : Nat) (A0 : Option Addr) (c0 : Nat) (l0 : List ByteArray) (r : Bool) (w : World) (hr0 : Kd.C Kd.string w A0 l0.length l0) (hc0 : l0.length ≤ c0) (h : spec_l41Heads.f k l0 = some r) :
    Calls Try.prog 49 #[.slice A0 l0.length c0] w fun e w' => e = .returned (.bool r) ∧ Drawn0 w w' := by
  have HR0 := Aside0.mk hr0
  have HC0 := Aside0.mk hc0
  clear hr0 hc0
  have H : (spec_l41Heads.l0 k l0 0) = some r := h
  clear h
  have H' := Aside0.mk H
  clear H
  go_enter Try.func49, Try.ntmps49
  go_wp2
  go_loopg [3] k (fun kq v3 w' => ∃ (x3_1 : Int), v3 = .int .i64 x3_1 ∧ Aside0 (spec_l41Heads.l0 kq l0 x3_1 = some r) ∧ Aside0 (kq ≤ k) ∧ Drawn0 w w')
  case atStart => exact ⟨(0), (by first | rfl | (simp; done) | (simp [*]; done)), H', ⟨Nat.le_refl _⟩, by repeat (first | exact Drawn0.refl _ | apply Drawn0.step)⟩
  case round =>
    clear H'
    obtain ⟨x3_1, rfl, HA, HK1, ⟨m1, rfl⟩⟩ := hrel
    cases gk with
    | zero => exact absurd HA.out (by simp [spec_l41Heads.l0])
    | succ k1 =>
      have H := HA.out
      clear HA
      simp only [spec_l41Heads.l0] at H
      by_cases c2 : x3_1 < (l0.length : Int)
      · rw [if_pos c2] at H
        have c2b0 : decide (x3_1 < (l0.length : Int)) = true := decide_eq_true c2
        clear c2
        by_cases c3 : 0 ≤ x3_1
        · rw [if_pos c3] at H
          have c3b0 : decide (0 ≤ x3_1) = true := decide_eq_true c3
          clear c3
          replace H := Option.bind_eq_some_iff.mp H
          obtain ⟨t151, A40, H⟩ := H
          replace H : (if t151 = true then (if ((rdOf ByteArray.empty l0 x3_1).size : Int) ≥ 3 then (some false) else (spec_l41Heads.l0 k1 l0 (wrap64 (x3_1 + 1)))) else (some false)) = some r := H
          have A4 := Aside0.mk A40
          clear A40
          by_cases c5 : t151 = true
          · subst c5
            have H1 : (if ((rdOf ByteArray.empty l0 x3_1).size : Int) ≥ 3 then (some false) else (spec_l41Heads.l0 k1 l0 (wrap64 (x3_1 + 1)))) = some r := by rw [if_pos rfl] at H; exact H
            clear H
            have H := H1
            clear H1
            by_cases c6 : ((rdOf ByteArray.empty l0 x3_1).size : Int) ≥ 3
            · rw [if_pos c6] at H
              have c6b0 : decide (3 ≤ ((rdOf ByteArray.empty l0 x3_1).size : Int)) = true := decide_eq_true c6
              have c6b1 : decide (3 ≤ (rdOf ByteArray.empty l0 x3_1).size) = true := decide_eq_true (by omega)
              clear c6
              obtain rfl := Option.some.inj H
              have p150 : 0 ≤ (x3_1 : Int) := of_decide_eq_true (by first | (with_reducible assumption) | assumption)
              have q150 : x3_1 < (l0.length : Int) := of_decide_eq_true (by first | (with_reducible assumption) | assumption)
              obtain ⟨ad150, e150, hx150_0⟩ := Kd.at_string HR0.out x3_1 p150 q150
              cases e150
              replace p150 := eq_true p150
              replace q150 := eq_true q150
              go_wp2_with (first | ((with_reducible refine gate_callee (f := 40) rfl ?_); refine goesL_ (some 14) rfl rfl Try.func40 (by kernel_rfl) rfl #[.string (rdOf ByteArray.empty l0 x3_1)] rfl (by (try simp only [List.map_toArray, List.map_cons, List.map_nil]); first | done | rfl | (simp only [List.length_drop, List.length_take]; rfl)) ?_; (with_reducible refine (spec_l41Head.calls k1 (rdOf ByteArray.empty l0 x3_1) true _ A4.out).mono ?_); rintro e w' ⟨rfl, ⟨nd, rfl⟩⟩; refine ⟨_, rfl, ?_⟩; have p152 : 0 ≤ (x3_1 : Int) := of_decide_eq_true (by first | (with_reducible assumption) | assumption); have q152 : x3_1 < (l0.length : Int) := of_decide_eq_true (by first | (with_reducible assumption) | assumption); obtain ⟨ad152, e152, hx152_0⟩ := Kd.at_string HR0.out x3_1 p152 q152; obtain rfl : ad150 = ad152 := (by injection e152); replace p152 := eq_true p152; replace q152 := eq_true q152))
              go_ret
              exact ⟨by first | rfl | (simp; done) | (simp [*]; done), by repeat (first | exact Drawn0.refl _ | apply Drawn0.step)⟩
            · rw [if_neg c6] at H
              have c6b0 : decide (3 ≤ ((rdOf ByteArray.empty l0 x3_1).size : Int)) = false := decide_eq_false c6
              have c6b1 : decide (3 ≤ (rdOf ByteArray.empty l0 x3_1).size) = false := decide_eq_false (by omega)
              clear c6
              have H' := Aside0.mk H
              clear H
              have p150 : 0 ≤ (x3_1 : Int) := of_decide_eq_true (by first | (with_reducible assumption) | assumption)
              have q150 : x3_1 < (l0.length : Int) := of_decide_eq_true (by first | (with_reducible assumption) | assumption)
              obtain ⟨ad150, e150, hx150_0⟩ := Kd.at_string HR0.out x3_1 p150 q150
              cases e150
              replace p150 := eq_true p150
              replace q150 := eq_true q150
              go_wp2_with (first | ((with_reducible refine gate_callee (f := 40) rfl ?_); refine goesL_ (some 14) rfl rfl Try.func40 (by kernel_rfl) rfl #[.string (rdOf ByteArray.empty l0 x3_1)] rfl (by (try simp only [List.map_toArray, List.map_cons, List.map_nil]); first | done | rfl | (simp only [List.length_drop, List.length_take]; rfl)) ?_; (with_reducible refine (spec_l41Head.calls k1 (rdOf ByteArray.empty l0 x3_1) true _ A4.out).mono ?_); rintro e w' ⟨rfl, ⟨nd, rfl⟩⟩; refine ⟨_, rfl, ?_⟩; have p152 : 0 ≤ (x3_1 : Int) := of_decide_eq_true (by first | (with_reducible assumption) | assumption); have q152 : x3_1 < (l0.length : Int) := of_decide_eq_true (by first | (with_reducible assumption) | assumption); obtain ⟨ad152, e152, hx152_0⟩ := Kd.at_string HR0.out x3_1 p152 q152; obtain rfl : ad150 = ad152 := (by injection e152); replace p152 := eq_true p152; replace q152 := eq_true q152))
              go_roundg k1
              case measure => have := HK1.out; omega
              case rel => exact ⟨(wrap64 (x3_1 + 1)), (by first | rfl | (simp; done) | (simp [*]; done)), H', ⟨by have := HK1.out; omega⟩, by repeat (first | exact Drawn0.refl _ | apply Drawn0.step)⟩
          · replace c5 := Bool.eq_false_iff.mpr c5
            subst c5
            have H1 : (some false) = some r := by rw [if_neg (show ¬ (false = true) by decide)] at H; exact H
            clear H
            have H := H1
            clear H1
            obtain rfl := Option.some.inj H
            have p150 : 0 ≤ (x3_1 : Int) := of_decide_eq_true (by first | (with_reducible assumption) | assumption)
            have q150 : x3_1 < (l0.length : Int) := of_decide_eq_true (by first | (with_reducible assumption) | assumption)
            obtain ⟨ad150, e150, hx150_0⟩ := Kd.at_string HR0.out x3_1 p150 q150
            cases e150
            replace p150 := eq_true p150
            replace q150 := eq_true q150
            go_wp2_with (first | ((with_reducible refine gate_callee (f := 40) rfl ?_); refine goesL_ (some 14) rfl rfl Try.func40 (by kernel_rfl) rfl #[.string (rdOf ByteArray.empty l0 x3_1)] rfl (by (try simp only [List.map_toArray, List.map_cons, List.map_nil]); first | done | rfl | (simp only [List.length_drop, List.length_take]; rfl)) ?_; (with_reducible refine (spec_l41Head.calls k1 (rdOf ByteArray.empty l0 x3_1) false _ A4.out).mono ?_); rintro e w' ⟨rfl, ⟨nd, rfl⟩⟩; refine ⟨_, rfl, ?_⟩))
            go_ret
            exact ⟨by first | rfl | (simp; done) | (simp [*]; done), by repeat (first | exact Drawn0.refl _ | apply Drawn0.step)⟩
        · rw [if_neg c3] at H
          exact absurd H (by simp)
      · rw [if_neg c2] at H
        have c2b0 : decide (x3_1 < (l0.length : Int)) = false := decide_eq_false c2
        clear c2
        obtain rfl := Option.some.inj H
        go_wp2
        go_ret
        exact ⟨by first | rfl | (simp; done) | (simp [*]; done), by repeat (first | exact Drawn0.refl _ | apply Drawn0.step)⟩

/-! ### spec_HeavyNext: function 27 -/
def spec_HeavyNext.l0 : Nat → List ByteArray → List ByteArray → Int → Option (List ByteArray)
  | 0, _, _, _ => none
  | k + 1, x0, x3, x4 => if x4 < (x0.length : Int) then (if 0 ≤ x4 then (if (rdOf ByteArray.empty x0 x4).size + 1 ≤ 9223372036854775807 then ((some (([(rdOf ByteArray.empty x0 x4) ++ (⟨#[97]⟩ : ByteArray), (rdOf ByteArray.empty x0 x4) ++ (⟨#[98]⟩ : ByteArray)] : List ByteArray) : List ByteArray)).bind fun y159 => (if x3.length + y159.length < 8796093022208 then (spec_HeavyNext.l0 k x0 (x3 ++ y159) (wrap64 (x4 + 1))) else (none))) else (none)) else (none)) else (some x3)
def spec_HeavyNext.f (k : Nat) (l0 : List ByteArray) : Option (List ByteArray) := (some (([] : List ByteArray) : List ByteArray)).bind fun y153 => ((spec_l41Heads.f k l0).bind fun t156 => (if t156 = true then (spec_HeavyNext.l0 k l0 y153 0) else (some y153)))
theorem spec_HeavyNext.mono_l : ∀ k, (∀ y0 y1 y2, LeO (spec_HeavyNext.l0 k y0 y1 y2) (spec_HeavyNext.l0 (k + 1) y0 y1 y2))
  | 0 => fun _ _ _ r h => by simp [spec_HeavyNext.l0] at h
  | k + 1 => by
    have ih0 := spec_HeavyNext.mono_l k
    · intro y0 y1 y2
      unfold spec_HeavyNext.l0
      repeat' first
      | (with_reducible exact ih0 _ _ _)
      | (with_reducible exact spec_l41Heads.mono _ _)
      | (with_reducible exact LeO.refl _)
      | (with_reducible exact LeO.none _)
      | (with_reducible refine LeO.ite ?_ ?_)
      | (with_reducible refine LeO.bind ?_ (fun _ => ?_))
      | exact ih0 _ _ _
      | exact spec_l41Heads.mono _ _
      | exact LeO.none _
      | refine LeO.ite ?_ ?_
      | refine LeO.bind ?_ (fun _ => ?_)
theorem spec_HeavyNext.mono : ∀ a0 k, LeO (spec_HeavyNext.f k a0) (spec_HeavyNext.f (k + 1) a0) := by
  intro a0 k
  have ih0 := spec_HeavyNext.mono_l k
  unfold spec_HeavyNext.f
  repeat' first
      | (with_reducible exact ih0 _ _ _)
      | (with_reducible exact spec_l41Heads.mono _ _)
      | (with_reducible exact LeO.refl _)
      | (with_reducible exact LeO.none _)
      | (with_reducible refine LeO.ite ?_ ?_)
      | (with_reducible refine LeO.bind ?_ (fun _ => ?_))
      | exact ih0 _ _ _
      | exact spec_l41Heads.mono _ _
      | exact LeO.none _
      | refine LeO.ite ?_ ?_
      | refine LeO.bind ?_ (fun _ => ?_)
def spec_HeavyNext.T7 : Bool × List (List Nat × List Nat) := (true, [([], []), ([], []), ([], []), ([1, 2], [1, 2]), ([3], [3]), ([4], [4]), ([], []), ([], []), ([6, 7], [6, 7]), ([8], [8]), ([9], [9]), ([5, 10], [5, 10]), ([0, 11], [0, 11]), ([12, 12, 0, 1, 2, 3, 4, 5, 6, 7, 8, 9, 10, 11, 12], [0, 12])])
def spec_HeavyNext.B7 : List Nat := [0, 0, 0, 6, 14, 30, 0, 0, 192, 448, 960, 2046, 4095, 8191]
theorem spec_HeavyNext.tab7 : rtab .any (opsOf Try.f27 7) = spec_HeavyNext.T7 := by kernel_rfl
theorem spec_HeavyNext.bits7 : waitsOk spec_HeavyNext.T7.2 spec_HeavyNext.B7 = true := by kernel_rfl
set_option maxHeartbeats 8000000 in
set_option maxRecDepth 100000 in
theorem spec_HeavyNext.calls (k : Nat) (A0 : Option Addr) (c0 : Nat) (l0 : List ByteArray) (r : List ByteArray) (w : World) (hr0 : Kd.C Kd.string w A0 l0.length l0) (hc0 : l0.length ≤ c0) (h : spec_HeavyNext.f k l0 = some r) :
    Calls Try.prog 27 #[.slice A0 l0.length c0] w fun e w' => ∃ v0_ : Value, e = .returned (v0_) ∧ Kd.R Kd.string 9 w' w.heap.size (fun _ => True) v0_ r ∧ Below w.heap.size w w' := by
  have HR0 := Aside0.mk hr0
  have HC0 := Aside0.mk hc0
  clear hr0 hc0
  have HB := Aside0.mk (Below.refl w.heap.size w)
  have H : ((some (([] : List ByteArray) : List ByteArray)).bind fun y153 => ((spec_l41Heads.f k l0).bind fun t156 => (if t156 = true then (spec_HeavyNext.l0 k l0 y153 0) else (some y153)))) = some r := h
  clear h
  obtain ⟨y153, hy153⟩ : ∃ y_ : List ByteArray, y_ = (([] : List ByteArray)) := ⟨_, rfl⟩
  replace H : ((spec_l41Heads.f k l0).bind fun t156 => (if t156 = true then (spec_HeavyNext.l0 k l0 y153 0) else (some y153))) = some r := by first | (rw [hy153]; with_reducible exact H) | (have H2_ := (Option.bind_some _ _).symm.trans H; rw [hy153]; with_reducible exact H2_) | (have H2_ := (Option.bind_some _ _).symm.trans H; with_reducible exact H2_) | with_reducible exact H | (rw [hy153]; exact H) | exact H
  have Ny153 := Aside0.mk hy153
  clear hy153
  replace H := Option.bind_eq_some_iff.mp H
  obtain ⟨t156, A20, H⟩ := H
  replace H : (if t156 = true then (spec_HeavyNext.l0 k l0 y153 0) else (some y153)) = some r := H
  have A2 := Aside0.mk A20
  clear A20
  by_cases c3 : t156 = true
  · subst c3
    have H1 : (spec_HeavyNext.l0 k l0 y153 0) = some r := by rw [if_pos rfl] at H; exact H
    clear H
    have H := H1
    clear H1
    have H' := Aside0.mk H
    clear H
    go_enter Try.func27, Try.ntmps27
    go_wp2_with (first | ((with_reducible refine gate_dst (N := 5) rfl ?_); refine Kd.R_lit Kd.string _ 9 ?hg (N := 5) ?hd (xs := ([] : List ByteArray)) (inner := []) (ok := fun _ => True) (okp := fun _ => True) ?hr ?hp (fun _ hk => hk) trivial (Below.refl _ _) (Nat.le_refl _) (by simp) ?_; (case hd => rfl); (case hg => rfl); (case hr => first | (go_simp; done) | (go_simp; rfl)); (case hp => exact (Reps.none _ _)); intro v154 w4 ho5 hb hg_ hnew_; clear hg_ hnew_; (first | rw [← Ny153.out] at ho5 | (simp only [Int.reduceToNat] at ho5; rw [← Ny153.out] at ho5)); have n0_ := Aside0.mk (Kd.R_lower ho5 (below_size (by repeat (first | (with_reducible first | exact HB.out | apply below_alloc | apply pw_below_drewN | apply below_drew1) | exact HB.out)))); have n1_ := Aside0.mk (below_step (by repeat (first | (with_reducible first | exact HB.out | apply below_alloc | apply pw_below_drewN | apply below_drew1) | exact HB.out)) hb); clear HB; have HO155 := n0_; have HB := n1_; clear n0_ n1_; clear hb ho5) | ((with_reducible refine gate_callee (f := 49) rfl ?_); refine goesL_ (some 7) rfl rfl Try.func49 (by kernel_rfl) rfl #[.slice A0 l0.length c0] rfl (by (try simp only [List.map_toArray, List.map_cons, List.map_nil]); first | done | rfl | (simp only [List.length_drop, List.length_take]; rfl)) ?_; (with_reducible refine (spec_l41Heads.calls k _ _ l0 true _ ?side1 ?side2 A2.out).mono ?_); (case side1 => repeat (first | exact (Kd.C_below HR0.out HB.out) | (with_reducible refine Kd.C_alloc ?_ _) | (with_reducible refine Kd.C_drewN ?_ _) | (with_reducible refine Kd.C_drew ?_))); (case side2 => exact HC0.out); rintro e w' ⟨rfl, ⟨nd, rfl⟩⟩; refine ⟨_, rfl, ?_⟩))
    go_loopg [3, 4] k (fun kq v3 v4 w' => ∃ (x3_1 : List ByteArray) (x4_1 : Int), v4 = .int .i64 x4_1 ∧ Aside0 (spec_HeavyNext.l0 kq l0 x3_1 x4_1 = some r) ∧ Aside0 (kq ≤ k) ∧ Aside0 (Kd.R Kd.string 9 w' w.heap.size (fun _ => True) v3 x3_1) ∧ Aside0 (Below w.heap.size w w'))
    case atStart => exact ⟨(y153), (0), (by first | rfl | (simp; done) | (simp [*]; done)), H', ⟨Nat.le_refl _⟩, ⟨by (with_reducible repeat (first | apply Kd.R_alloc | apply Kd.R_drewN | apply Kd.R_drew)); exact HO155.out⟩, ⟨by repeat (first | (with_reducible first | exact HB.out | apply below_alloc | apply pw_below_drewN | apply below_drew1) | exact HB.out)⟩⟩
    case round =>
      clear H'
      try clear c2
      try clear p2
      try clear c3
      try clear c4
      obtain ⟨x3_1, x4_1, rfl, HA, HK1, HO_3, HB⟩ := hrel
      cases gk with
      | zero => exact absurd HA.out (by simp [spec_HeavyNext.l0])
      | succ k1 =>
        have H := HA.out
        clear HA
        simp only [spec_HeavyNext.l0] at H
        by_cases c6 : x4_1 < (l0.length : Int)
        · rw [if_pos c6] at H
          have c6b0 : decide (x4_1 < (l0.length : Int)) = true := decide_eq_true c6
          clear c6
          by_cases c7 : 0 ≤ x4_1
          · rw [if_pos c7] at H
            have c7b0 : decide (0 ≤ x4_1) = true := decide_eq_true c7
            clear c7
            by_cases c8 : (rdOf ByteArray.empty l0 x4_1).size + 1 ≤ 9223372036854775807
            · rw [if_pos c8] at H
              have c8b0 := eq_true c8
              have c8b1 : decide ((rdOf ByteArray.empty l0 x4_1).size + 1 ≤ 9223372036854775807) = true := decide_eq_true c8
              try have c8b2 : (9223372036854775807 < (rdOf ByteArray.empty l0 x4_1).size + 1) = False := eq_false (Nat.not_lt.2 c8)
              obtain ⟨y159, hy159⟩ : ∃ y_ : List ByteArray, y_ = (([(rdOf ByteArray.empty l0 x4_1) ++ (⟨#[97]⟩ : ByteArray), (rdOf ByteArray.empty l0 x4_1) ++ (⟨#[98]⟩ : ByteArray)] : List ByteArray)) := ⟨_, rfl⟩
              replace H : (if x3_1.length + y159.length < 8796093022208 then (spec_HeavyNext.l0 k1 l0 (x3_1 ++ y159) (wrap64 (x4_1 + 1))) else (none)) = some r := by first | (rw [hy159]; with_reducible exact H) | (have H2_ := (Option.bind_some _ _).symm.trans H; rw [hy159]; with_reducible exact H2_) | (have H2_ := (Option.bind_some _ _).symm.trans H; with_reducible exact H2_) | with_reducible exact H | (rw [hy159]; exact H) | exact H
              have Ny159 := Aside0.mk hy159
              clear hy159
              by_cases c9 : x3_1.length + y159.length < 8796093022208
              · rw [if_pos c9] at H
                have LMc9 := Aside0.mk c9
                clear c9
                obtain ⟨y162, hy162⟩ : ∃ y_ : List ByteArray, y_ = (x3_1 ++ y159) := ⟨_, rfl⟩
                replace H : (spec_HeavyNext.l0 k1 l0 y162 (wrap64 (x4_1 + 1))) = some r := by first | (rw [hy162]; with_reducible exact H) | (have H2_ := (Option.bind_some _ _).symm.trans H; rw [hy162]; with_reducible exact H2_) | (have H2_ := (Option.bind_some _ _).symm.trans H; with_reducible exact H2_) | with_reducible exact H | (rw [hy162]; exact H) | exact H
                have Ny162 := Aside0.mk hy162
                clear hy162
                have H' := Aside0.mk H
                clear H
                try go_wp2
                have n0_ := Aside0.mk (Kd.R_drew HO_3.out)
                have n1_ := Aside0.mk (below_drew1 HB.out)
                clear HO_3
                clear HB
                have HO_3 := n0_
                have HB := n1_
                clear n0_ n1_
                have p157 : 0 ≤ (x4_1 : Int) := of_decide_eq_true (by first | (with_reducible assumption) | assumption)
                have q157 : x4_1 < (l0.length : Int) := of_decide_eq_true (by first | (with_reducible assumption) | assumption)
                obtain ⟨ad157, e157, hx157_0⟩ := Kd.at_string HR0.out x4_1 p157 q157
                have hw157_0 := hx157_0
                cases e157
                replace hx157_0 := (HB.out.cell (World.block_lt_of_cell? w _ hx157_0)).trans hx157_0
                replace p157 := eq_true p157
                replace q157 := eq_true q157
                have p158 : 0 ≤ (x4_1 : Int) := of_decide_eq_true (by first | (with_reducible assumption) | assumption)
                have q158 : x4_1 < (l0.length : Int) := of_decide_eq_true (by first | (with_reducible assumption) | assumption)
                obtain ⟨ad158, e158, hx158_0⟩ := Kd.at_string HR0.out x4_1 p158 q158
                have hw158_0 := hx158_0
                obtain rfl : ad157 = ad158 := (by injection e158)
                replace hx158_0 := (HB.out.cell (World.block_lt_of_cell? w _ hx158_0)).trans hx158_0
                replace p158 := eq_true p158
                replace q158 := eq_true q158
                refine start_ (n := 14) (S := fun w' => w'.cell? (ad157.add (x4_1).toNat) = some (.string (rdOf ByteArray.empty l0 x4_1)) ∧ w'.cell? (ad157.add (x4_1).toNat) = some (.string (rdOf ByteArray.empty l0 x4_1))) (ds := []) #[false, false, false, false, false, false, false, false, false, false, false, false, false, false] (by kernel_rfl) rfl rfl ⟨((HB.out.cell (World.block_lt_of_cell? w _ hw157_0)).trans hw157_0), ((HB.out.cell (World.block_lt_of_cell? w _ hw158_0)).trans hw158_0)⟩ (fun hHeld => ?_); refine with_tabW spec_HeavyNext.tab7 spec_HeavyNext.bits7 (fun HT_ HW_ => ?_)
                generalize wr.drew = w10 at HO_3 HB hx157_0 hx158_0 hHeld ⊢
                refine pure_ (i := 0) (N := some 16) (v := ?_) (a' := ?_) #[true, false, false, false, false, false, false, false, false, false, false, false, false, false] rfl rfl (any_of HT_.out (by kernel_rfl)) (fun _ _ _ h => h) (Or.inl ⟨by rfl, ?_⟩) ?_ ?_
                rotate_left
                · intro w'
                  go_simp
                  with_reducible rfl
                rotate_left
                · simp only [Act.put, List.setIfInBounds_toArray, List.set_cons_zero, List.set_cons_succ, i64_w, i32_w]
                  rfl
                refine pure_ (i := 1) (N := some 17) (v := ?_) (a' := ?_) #[true, true, false, false, false, false, false, false, false, false, false, false, false, false] rfl rfl (any_of HT_.out (by kernel_rfl)) (fun _ _ _ h => h) (Or.inl ⟨by rfl, ?_⟩) ?_ ?_
                rotate_left
                · intro w'
                  go_simp
                  with_reducible rfl
                rotate_left
                · simp only [Act.put, List.setIfInBounds_toArray, List.set_cons_zero, List.set_cons_succ, i64_w, i32_w]
                  rfl
                refine pure_ (i := 2) (N := some 18) (v := ?_) (a' := ?_) #[true, true, true, false, false, false, false, false, false, false, false, false, false, false] rfl rfl (any_of HT_.out (by kernel_rfl)) (fun _ _ _ h => h) (Or.inl ⟨by rfl, ?_⟩) ?_ ?_
                rotate_left
                · intro w'
                  go_simp
                  with_reducible rfl
                rotate_left
                · simp only [Act.put, List.setIfInBounds_toArray, List.set_cons_zero, List.set_cons_succ, i64_w, i32_w]
                  rfl
                refine pure_ (i := 3) (N := some 19) (v := ?_) (a' := ?_) #[true, true, true, true, false, false, false, false, false, false, false, false, false, false] rfl rfl (any_of HT_.out (by kernel_rfl)) (fun _ _ _ h => h) (Or.inl ⟨by rfl, ?_⟩) ?_ ?_
                rotate_left
                · intro w'
                  go_simp
                  with_reducible rfl
                rotate_left
                · simp only [Act.put, List.setIfInBounds_toArray, List.set_cons_zero, List.set_cons_succ, i64_w, i32_w]
                  rfl
                refine pure_ (i := 6) (N := some 22) (v := ?_) (a' := ?_) #[true, true, true, true, false, false, true, false, false, false, false, false, false, false] rfl rfl (any_of HT_.out (by kernel_rfl)) (fun _ _ _ h => h) (Or.inl ⟨by rfl, ?_⟩) ?_ ?_
                rotate_left
                · intro w'
                  go_simp
                  with_reducible rfl
                rotate_left
                · simp only [Act.put, List.setIfInBounds_toArray, List.set_cons_zero, List.set_cons_succ, i64_w, i32_w]
                  rfl
                refine pure_ (i := 7) (N := some 23) (v := ?_) (a' := ?_) #[true, true, true, true, false, false, true, true, false, false, false, false, false, false] rfl rfl (any_of HT_.out (by kernel_rfl)) (fun _ _ _ h => h) (Or.inl ⟨by rfl, ?_⟩) ?_ ?_
                rotate_left
                · intro w'
                  go_simp
                  with_reducible rfl
                rotate_left
                · simp only [Act.put, List.setIfInBounds_toArray, List.set_cons_zero, List.set_cons_succ, i64_w, i32_w]
                  rfl
                refine pure_ (i := 8) (N := some 24) (v := ?_) (a' := ?_) #[true, true, true, true, false, false, true, true, true, false, false, false, false, false] rfl rfl (any_of HT_.out (by kernel_rfl)) (fun _ _ _ h => h) (Or.inl ⟨by rfl, ?_⟩) ?_ ?_
                rotate_left
                · intro w'
                  go_simp
                  with_reducible rfl
                rotate_left
                · simp only [Act.put, List.setIfInBounds_toArray, List.set_cons_zero, List.set_cons_succ, i64_w, i32_w]
                  rfl
                refine take_ (i := 4) (N := some 20) (v := ?_) (a' := ?_) #[true, true, true, true, true, false, true, true, true, false, false, false, false, false] rfl rfl (take_ofW HT_.out HW_.out (by kernel_rfl)) (fun _ _ _ h => h) (Or.inl ⟨by rfl, ?_⟩) hHeld ?_ ?_
                rotate_left
                · rintro w' ⟨s0, s1⟩
                  go_simp
                  with_reducible rfl
                rotate_left
                · simp only [Act.put, List.setIfInBounds_toArray, List.set_cons_zero, List.set_cons_succ, i64_w, i32_w]
                  rfl
                refine pure_ (i := 5) (N := some 21) (v := ?_) (a' := ?_) #[true, true, true, true, true, true, true, true, true, false, false, false, false, false] rfl rfl (any_of HT_.out (by kernel_rfl)) (fun _ _ _ h => h) (Or.inl ⟨by rfl, ?_⟩) ?_ ?_
                rotate_left
                · intro w'
                  go_simp
                  with_reducible rfl
                rotate_left
                · simp only [Act.put, List.setIfInBounds_toArray, List.set_cons_zero, List.set_cons_succ, i64_w, i32_w]
                  rfl
                refine take_ (i := 9) (N := some 25) (v := ?_) (a' := ?_) #[true, true, true, true, true, true, true, true, true, true, false, false, false, false] rfl rfl (take_ofW HT_.out HW_.out (by kernel_rfl)) (fun _ _ _ h => h) (Or.inl ⟨by rfl, ?_⟩) hHeld ?_ ?_
                rotate_left
                · rintro w' ⟨s0, s1⟩
                  go_simp
                  with_reducible rfl
                rotate_left
                · simp only [Act.put, List.setIfInBounds_toArray, List.set_cons_zero, List.set_cons_succ, i64_w, i32_w]
                  rfl
                refine pure_ (i := 10) (N := some 26) (v := ?_) (a' := ?_) #[true, true, true, true, true, true, true, true, true, true, true, false, false, false] rfl rfl (any_of HT_.out (by kernel_rfl)) (fun _ _ _ h => h) (Or.inl ⟨by rfl, ?_⟩) ?_ ?_
                rotate_left
                · intro w'
                  go_simp
                  with_reducible rfl
                rotate_left
                · simp only [Act.put, List.setIfInBounds_toArray, List.set_cons_zero, List.set_cons_succ, i64_w, i32_w]
                  rfl
                refine one_ (i := 11) (N := some 27) #[true, true, true, true, true, true, true, true, true, true, true, true, false, false] rfl rfl (one_of HT_.out (by kernel_rfl)) (by decide) (fun K hK => ?_)
                refine Kd.R_lit_step Kd.string _ 9 ?hg (N := 27) ?hd (xs := ([(rdOf ByteArray.empty l0 x4_1) ++ (⟨#[97]⟩ : ByteArray), (rdOf ByteArray.empty l0 x4_1) ++ (⟨#[98]⟩ : ByteArray)] : List ByteArray)) (inner := [.string ((rdOf ByteArray.empty l0 x4_1) ++ (⟨#[97]⟩ : ByteArray)), .string ((rdOf ByteArray.empty l0 x4_1) ++ (⟨#[98]⟩ : ByteArray))]) (ok := fun _ => True) (okp := fun _ => True) ?hr ?hp (fun _ hk => hk) trivial (Below.refl _ _) (Nat.le_refl _) (by simp) ?_; (case hd => rfl); (case hg => rfl); (case hr => first | (go_simp; done) | (go_simp; rfl)); (case hp => exact (Reps.one (show Kd.M Kd.string _ _ _ ((rdOf ByteArray.empty l0 x4_1) ++ (⟨#[97]⟩ : ByteArray)) [.string ((rdOf ByteArray.empty l0 x4_1) ++ (⟨#[97]⟩ : ByteArray))] from rfl) (Reps.one (show Kd.M Kd.string _ _ _ ((rdOf ByteArray.empty l0 x4_1) ++ (⟨#[98]⟩ : ByteArray)) [.string ((rdOf ByteArray.empty l0 x4_1) ++ (⟨#[98]⟩ : ByteArray))] from rfl) (Reps.none _ _))))
                intro v160 w11 ho12 hb hg_ hnew_
                clear hg_ hnew_
                (first | rw [← Ny159.out] at ho12 | (simp only [Int.reduceToNat] at ho12; rw [← Ny159.out] at ho12))
                have n0_ := Aside0.mk (Kd.R_elder' (by (with_reducible repeat (first | apply Kd.R_alloc | apply Kd.R_drewN | apply Kd.R_drew)); exact HO_3.out) (Kd.R_base ho12) hb)
                have n1_ := Aside0.mk (Kd.R_lower (Kd.R_new' ho12 (Kd.R_lt (by (with_reducible repeat (first | apply Kd.R_alloc | apply Kd.R_drewN | apply Kd.R_drew)); exact HO_3.out))) (below_size (by repeat (first | (with_reducible first | exact HB.out | apply below_alloc | apply pw_below_drewN | apply below_drew1) | exact HB.out))))
                have n2_ := Aside0.mk (below_step (by repeat (first | (with_reducible first | exact HB.out | apply below_alloc | apply pw_below_drewN | apply below_drew1) | exact HB.out)) hb)
                clear HO_3
                clear HB
                have HO_3 := n0_
                have HO161 := n1_
                have HB := n2_
                clear n0_ n1_ n2_
                clear hb ho12
                obtain ⟨Ao14, co14, eo14⟩ := Kd.R_slice HO161.out
                (first | subst eo14 | (injection eo14 with f1_ f2_ f3_; have f4_ := f1_.symm; have f5_ := f3_.symm; clear f1_ f2_ f3_; subst f4_; subst f5_))
                refine hK.out _ _ ⟨((HB.out.cell (World.block_lt_of_cell? w _ hw157_0)).trans hw157_0), ((HB.out.cell (World.block_lt_of_cell? w _ hw158_0)).trans hw158_0)⟩ (fun hHeld => ?_)
                clear hK K
                refine norm_ (a' := ?_) ?_ ?_
                rotate_left
                · show Act.put _ (some 27) _ = _
                  simp only [Act.put, List.setIfInBounds_toArray, List.set_cons_zero, List.set_cons_succ, i64_w, i32_w]
                  rfl
                refine one_ (i := 12) (N := some 28) #[true, true, true, true, true, true, true, true, true, true, true, true, true, false] rfl rfl (one_of HT_.out (by kernel_rfl)) (by decide) (fun K hK => ?_)
                refine Kd.R_append_rows_step Kd.string (w0 := w) w.heap.size (by rfl) (.tmp 16) (.tmp 27) 22 9 (.string ⟨#[]⟩) 16 rfl Try.underlying22 info9 rfl (by decide) (by omega) u3 x3_1 y159 _ _ _ (fun k_ => some k_ ≠ (.slice Ao14 y159.length co14 : Value).ownBlock) (fun _ => False) rfl rfl ?aO ?aR (fun _ _ h => h) (fun _ h => h.elim) ?aF ?aB ?aS ?aL ?_
                (case aR => repeat (first | exact (Kd.R_reads' HO161.out).2.2 | (with_reducible refine Kd.C_alloc ?_ _) | (with_reducible refine Kd.C_drewN ?_ _) | (with_reducible refine Kd.C_drew ?_)))
                (case aB => exact (by repeat (first | (with_reducible first | exact HB.out | apply below_alloc | apply pw_below_drewN | apply below_drew1) | exact HB.out)))
                (case aF => exact (fun k_ hk => Kd.fresh' (Kd.R_lt (by (with_reducible repeat (first | apply Kd.R_alloc | apply Kd.R_drewN | apply Kd.R_drew)); exact HO161.out)) k_ hk))
                (case aO => exact (by (with_reducible repeat (first | apply Kd.R_alloc | apply Kd.R_drewN | apply Kd.R_drew)); exact Kd.R_mono HO_3.out (fun _ hk => hk.2)))
                (case aS => exact (below_size (by repeat (first | (with_reducible first | exact HB.out | apply below_alloc | apply pw_below_drewN | apply below_drew1) | exact HB.out))))
                (case aL => have := LMc9.out; omega)
                intro v163 w13 ho hb hg hat
                rw [← Ny162.out] at ho
                have n0_ := Aside0.mk (Kd.R_after (ok := (fun _ => True)) (by (with_reducible repeat (first | apply Kd.R_alloc | apply Kd.R_drewN | apply Kd.R_drew)); exact HO161.out) hg hat)
                have n1_ := Aside0.mk (hb)
                have n2_ := Aside0.mk (ho)
                clear HO161
                clear HB
                clear HO_3
                have HO161 := n0_
                have HB := n1_
                have HO164 := n2_
                clear n0_ n1_ n2_
                clear ho hb hg hat
                refine hK.out _ _ ⟨((HB.out.cell (World.block_lt_of_cell? w _ hw157_0)).trans hw157_0), ((HB.out.cell (World.block_lt_of_cell? w _ hw158_0)).trans hw158_0)⟩ (fun hHeld => ?_)
                clear hK K
                refine norm_ (a' := ?_) ?_ ?_
                rotate_left
                · show Act.put _ (some 28) _ = _
                  simp only [Act.put, List.setIfInBounds_toArray, List.set_cons_zero, List.set_cons_succ, i64_w, i32_w]
                  rfl
                refine pure_ (i := 13) (N := some 3) (v := ?_) (a' := ?_) #[true, true, true, true, true, true, true, true, true, true, true, true, true, true] rfl rfl (any_of HT_.out (by kernel_rfl)) (fun _ _ _ h => h) (Or.inl ⟨by rfl, ?_⟩) ?_ ?_
                rotate_left
                · intro w'
                  go_simp
                  with_reducible rfl
                rotate_left
                · simp only [Act.put, List.setIfInBounds_toArray, List.set_cons_zero, List.set_cons_succ, i64_w, i32_w]
                  rfl
                refine done_ (done_of HT_.out (by kernel_rfl)) ?_
                try go_wp2
                go_roundg k1
                case measure => have := HK1.out; omega
                case rel => exact ⟨(y162), (wrap64 (x4_1 + 1)), (by first | rfl | (simp; done) | (simp [*]; done)), H', ⟨by have := HK1.out; omega⟩, ⟨by (with_reducible repeat (first | apply Kd.R_alloc | apply Kd.R_drewN | apply Kd.R_drew)); exact Kd.R_mono HO164.out (fun _ hk => trivial)⟩, ⟨by repeat (first | (with_reducible first | exact HB.out | apply below_alloc | apply pw_below_drewN | apply below_drew1) | exact HB.out)⟩⟩
              · rw [if_neg c9] at H
                exact absurd H (by simp)
            · rw [if_neg c8] at H
              exact absurd H (by simp)
          · rw [if_neg c7] at H
            exact absurd H (by simp)
        · rw [if_neg c6] at H
          have c6b0 : decide (x4_1 < (l0.length : Int)) = false := decide_eq_false c6
          clear c6
          obtain rfl := Option.some.inj H
          go_wp2
          go_ret
          exact ⟨_, by first | rfl | (simp [errW_none, errW_some] <;> rfl) | (simp [*, errW_none, errW_some] <;> rfl), by (with_reducible repeat (first | apply Kd.R_alloc | apply Kd.R_drewN | apply Kd.R_drew)); exact HO_3.out, by repeat (first | (with_reducible first | exact HB.out | apply below_alloc | apply pw_below_drewN | apply below_drew1) | exact HB.out)⟩
  · replace c3 := Bool.eq_false_iff.mpr c3
    subst c3
    have H1 : (some y153) = some r := by rw [if_neg (show ¬ (false = true) by decide)] at H; exact H
    clear H
    have H := H1
    clear H1
    obtain rfl := Option.some.inj H
    go_enter Try.func27, Try.ntmps27
    go_wp2_with (first | ((with_reducible refine gate_dst (N := 5) rfl ?_); refine Kd.R_lit Kd.string _ 9 ?hg (N := 5) ?hd (xs := ([] : List ByteArray)) (inner := []) (ok := fun _ => True) (okp := fun _ => True) ?hr ?hp (fun _ hk => hk) trivial (Below.refl _ _) (Nat.le_refl _) (by simp) ?_; (case hd => rfl); (case hg => rfl); (case hr => first | (go_simp; done) | (go_simp; rfl)); (case hp => exact (Reps.none _ _)); intro v154 w15 ho16 hb hg_ hnew_; clear hg_ hnew_; (first | rw [← Ny153.out] at ho16 | (simp only [Int.reduceToNat] at ho16; rw [← Ny153.out] at ho16)); have n0_ := Aside0.mk (Kd.R_lower ho16 (below_size (by repeat (first | (with_reducible first | exact HB.out | apply below_alloc | apply pw_below_drewN | apply below_drew1) | exact HB.out)))); have n1_ := Aside0.mk (below_step (by repeat (first | (with_reducible first | exact HB.out | apply below_alloc | apply pw_below_drewN | apply below_drew1) | exact HB.out)) hb); clear HB; have HO155 := n0_; have HB := n1_; clear n0_ n1_; clear hb ho16) | ((with_reducible refine gate_callee (f := 49) rfl ?_); refine goesL_ (some 7) rfl rfl Try.func49 (by kernel_rfl) rfl #[.slice A0 l0.length c0] rfl (by (try simp only [List.map_toArray, List.map_cons, List.map_nil]); first | done | rfl | (simp only [List.length_drop, List.length_take]; rfl)) ?_; (with_reducible refine (spec_l41Heads.calls k _ _ l0 false _ ?side1 ?side2 A2.out).mono ?_); (case side1 => repeat (first | exact (Kd.C_below HR0.out HB.out) | (with_reducible refine Kd.C_alloc ?_ _) | (with_reducible refine Kd.C_drewN ?_ _) | (with_reducible refine Kd.C_drew ?_))); (case side2 => exact HC0.out); rintro e w' ⟨rfl, ⟨nd, rfl⟩⟩; refine ⟨_, rfl, ?_⟩))
    go_ret
    exact ⟨_, by first | rfl | (simp [errW_none, errW_some] <;> rfl) | (simp [*, errW_none, errW_some] <;> rfl), by (with_reducible repeat (first | apply Kd.R_alloc | apply Kd.R_drewN | apply Kd.R_drew)); exact HO155.out, by repeat (first | (with_reducible first | exact HB.out | apply below_alloc | apply pw_below_drewN | apply below_drew1) | exact HB.out)⟩

end Go.Proofs.Ytdjenclegglmfaa.PFnHeavyStep
