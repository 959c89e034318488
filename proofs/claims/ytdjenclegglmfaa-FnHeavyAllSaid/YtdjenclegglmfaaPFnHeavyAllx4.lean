-- Written by a program of this session over the kit's printer, with contracts proved by hand; Lean checks it.
import Derived.Test.YtdjenclegglmfaaPFnHeavyAllx0
import Derived.Test.YtdjenclegglmfaaPFnHeavyAllx1
import Derived.Test.YtdjenclegglmfaaPFnHeavyAllx2
import Derived.Test.YtdjenclegglmfaaPFnHeavyAllx3
namespace Go.Proofs.Ytdjenclegglmfaa.PFnHeavyAll
open Go.RowKit Go.Proofs.YtdjenclegglmfaaW.PrintWords Go.Proofs.YtdjenclegglmfaaW.PrintLast Go.Proofs.YtdjenclegglmfaaW.PrintMore
attribute [local go_sem] max2_int min2_int max_two min_two max_three min_three max_four min_four   -- for this text's walks alone
set_option linter.unusedVariables false
set_option linter.unusedSimpArgs false

/-! ### impl_HeavyStep: function 34 -/
-- The numbers of functions and types are those of the seat of the heavy group.
theorem few_calls (s : ByteArray) (w : World) (hs : s.size ≤ 140737488351232) {B : Nat} {m c : Pre → Nat} (hT : Tree w B m c) (ha : s.data.toList.all ab = true) (bt bn : Nat) (need : Int)
    (h1 : w.heap[bt]? = some (.cells #[.pointer (some ⟨m [], 0, none⟩)] 53 (0, 0))) (h2 : w.heap[bn]? = some (.cells #[.int .i64 need] 3 (0, 0))) :
    Calls Try.prog 56 #[.string s, .pointer (some ⟨bt, 0, none⟩), .pointer (some ⟨bn, 0, none⟩)] w fun e w' => e = .returned (.bool (decide ((c s.data.toList : Int) < need))) ∧ Below w.heap.size w w' := by
  have hc1 : w.cell? ⟨bt, 0, none⟩ = some (.pointer (some ⟨m [], 0, none⟩)) := h_cell h1 0
  have hlt := lt_heap h2
  have hcount := fun W => count_calls s W hs (B := B) (m := m) (c := c)
  have HCO := Go.Lib.hid hcount
  have HT := Go.Lib.hid hT
  have HA := Go.Lib.hid ha
  have H2 := Go.Lib.hid h2
  clear hcount hT ha h1 h2
  have hc2 : w.cell? ⟨bn, 0, none⟩ = some (.int .i64 need) := h_cell H2.out 0
  go_enter Try.func56, Try.ntmps56
  go_wp2
  go_region_with (go_at_call 53; refine (HCO.out _ (HT.out.below (Nat.le_refl _) (by repeat (first | exact Below.refl _ _ | apply pw_below_drewN | apply below_drew1))) HA.out).mono ?_; rintro e w' ⟨rfl, hb⟩; have hc3 : w'.cell? ⟨bn, 0, none⟩ = some (.int .i64 need) := h_cell ((hb.block _ hlt).trans H2.out) 0; have hbw := (show Below w.heap.size w w' from Below.trans (by repeat (first | exact Below.refl _ _ | apply pw_below_drewN | apply below_drew1)) hb))
  all_goals (go_wp2; go_ret; exact ⟨rfl, hbw⟩)
theorem take_s (l : List ByteArray) {k : Nat} (h : k < l.length) : l.take (k + 1) = l.take k ++ [l.getD k ByteArray.empty] := by
  rw [List.getD_eq_getElem?_getD, List.getElem?_eq_getElem h, Option.getD_some, List.take_append_getElem h]
theorem mem_s (l : List ByteArray) {k : Nat} (h : k < l.length) : l.getD k ByteArray.empty ∈ l := by
  rw [List.getD_eq_getElem?_getD, List.getElem?_eq_getElem h, Option.getD_some]
  exact List.getElem_mem h
theorem cur_s {cur : Array Value} {l : List ByteArray} (hc : cur.toList.take l.length = l.map .string) {k : Nat} (h : k < l.length) : cur[k]? = some (.string (l.getD k ByteArray.empty)) := by
  have h2 := congrArg (fun x => x[k]?) hc
  simp only [List.getElem?_take, List.getElem?_map] at h2
  rw [if_pos h] at h2
  rw [← Array.getElem?_toList, h2, List.getD_eq_getElem?_getD, List.getElem?_eq_getElem h]
  rfl
def firstBad (del : ByteArray → Bool) (l : List ByteArray) : Int := if l.any del = true then ((l.takeWhile fun s => !del s).length : Nat) else -1
theorem firstBad_at {del : ByteArray → Bool} {l : List ByteArray} {k : Nat} (hk : k < l.length) (h1 : (l.take k).any del = false) (h2 : del (l.getD k ByteArray.empty) = true) : firstBad del l = (k : Nat) := by
  unfold firstBad
  rw [if_pos (List.any_eq_true.2 ⟨_, mem_s l hk, h2⟩)]
  congr 1
  induction l generalizing k with
  | nil => simp at hk
  | cons x xs ih =>
    cases k with
    | zero => simp at h2; simp [h2]
    | succ k =>
      simp at h1
      have hx : del x = false := by simpa using h1.1
      rw [List.takeWhile_cons, hx]
      simp only [Bool.not_false, if_true, List.length_cons]
      congr 1
      exact ih (by simpa using hk) (by simpa using h1.2) (by simpa using h2)
set_option maxHeartbeats 1000000 in
theorem idx_calls (pt pn : Value) (g cap : Nat) (l : List ByteArray) (cur : Array Value) (w : World) (hh : w.heap[g]? = some (.cells cur 9 (0, 0))) (hcur : cur.toList.take l.length = l.map .string) (hl : l.length ≤ 100) (del : ByteArray → Bool)
    (hd : ∀ W s, s ∈ l → Below g w W → Calls Try.prog 56 #[.string s, pt, pn] W fun e w' => e = .returned (.bool (del s)) ∧ Below W.heap.size W w') :
    Calls Try.prog 57 #[.slice (some ⟨g, 0, none⟩) l.length cap, .func (.func 56) #[] #[pt, pn]] w fun e w' => e = .returned (.int .i64 (firstBad del l)) ∧ Below w.heap.size w w' := by
  have hlt := lt_heap hh
  have HH := Go.Lib.hid hh
  have HC := Go.Lib.hid hcur
  have HD := Go.Lib.hid hd
  clear hh hcur hd
  go_enter Try.func57, Try.ntmps57
  go_wp2
  go_loopw [8] (fun v8 W => ∃ k : Nat, k ≤ l.length ∧ v8 = .int .i64 k ∧ (l.take k).any del = false ∧ Below w.heap.size w W) (fun v8 _ => l.length - (intOf v8).toNat)
  case atStart => exact ⟨0, by omega, rfl, by simp, Below.refl _ _⟩
  case round =>
    obtain ⟨k, hk, rfl, hall, hb⟩ := hrel
    have HA := Go.Lib.hid hall
    clear hall
    by_cases hkt : k < l.length
    · have hc : wr.cell? ⟨g, k, none⟩ = some (.string (l.getD k ByteArray.empty)) := by
        rw [h_cell ((hb.block g hlt).trans HH.out) k]
        exact cur_s HC.out hkt
      have HT := Go.Lib.hid (take_s l hkt)
      have HF := Go.Lib.hid (firstBad_at (del := del) hkt HA.out)
      have hcall := fun W hW => HD.out W _ (mem_s l hkt) hW
      generalize l.getD k ByteArray.empty = s at *
      cases hp : del s
      · rw [hp] at hcall
        have HP := Go.Lib.hid hp
        have HCA := Go.Lib.hid hcall
        clear hp hcall
        go_wp2_with (go_at_call 56; refine (HCA.out _ (hb.mono (by omega))).mono ?_; rintro e w' ⟨rfl, hb2⟩)
        go_roundw
        case rel => exact ⟨k + 1, by omega, by go_num, by rw [HT.out, List.any_append, HA.out]; simp [HP.out], hb.trans (hb2.mono hb.size)⟩
        case measure => simp [intOf]; omega
      · rw [hp] at hcall
        have HX := Go.Lib.hid (HF.out hp)
        have HCA := Go.Lib.hid hcall
        clear hp hcall
        go_wp2_with (go_at_call 56; refine (HCA.out _ (hb.mono (by omega))).mono ?_; rintro e w' ⟨rfl, hb2⟩)
        go_ret
        exact ⟨by rw [HX.out]; rfl, hb.trans (hb2.mono hb.size)⟩
    · have hk2 : k = l.length := by omega
      subst hk2
      have hx : firstBad del l = -1 := by
        have := HA.out
        rw [List.take_of_length_le (by omega)] at this
        unfold firstBad
        rw [this]
        rfl
      have HX := Go.Lib.hid hx
      clear hx
      go_wp2
      go_ret
      exact ⟨by rw [HX.out]; rfl, hb⟩
theorem filter_take (del : ByteArray → Bool) (l : List ByteArray) {k : Nat} (h : k < l.length) : (l.take (k + 1)).filter (fun s => !del s) = (l.take k).filter (fun s => !del s) ++ (if del (l.getD k ByteArray.empty) = true then [] else [l.getD k ByteArray.empty]) := by
  rw [take_s l h, List.filter_append]
  congr 1
  generalize l.getD k ByteArray.empty = s
  cases hd : del s <;> simp [hd]
theorem firstBad_split {del : ByteArray → Bool} {l : List ByteArray} (h : l.any del = true) : ∃ k : Nat, k < l.length ∧ firstBad del l = (k : Nat) ∧ (l.take (k + 1)).filter (fun s => !del s) = l.take k := by
  obtain ⟨x, hx, hdx⟩ := List.any_eq_true.1 h
  unfold firstBad
  rw [if_pos h]
  refine ⟨_, ?_, rfl, ?_⟩
  · clear hdx hx
    induction l with
    | nil => simp at h
    | cons a xs ih =>
      rw [List.takeWhile_cons]
      cases hd : del a
      · simp [hd] at h
        simp
        exact ih (by simpa using h)
      · simp
  · clear hdx hx
    induction l with
    | nil => simp at h
    | cons a xs ih =>
      rw [List.takeWhile_cons]
      cases hd : del a
      · simp [hd] at h
        have := ih (by simpa using h)
        simp [hd]
        simpa using this
      · simp [hd]
theorem List.take_set_succ_ {α : Type} {l : List α} {i : Nat} {x : α} (h : i < l.length) : (l.set i x).take (i + 1) = l.take i ++ [x] := by
  rw [List.take_succ_eq_append_getElem (by simpa using h)]
  simp [List.take_set_of_le]
set_option maxHeartbeats 2000000 in
theorem del_calls (pt pn : Value) (g cap : Nat) (l : List ByteArray) (cur : Array Value) (w : World) (hh : w.heap[g]? = some (.cells cur 9 (0, 0))) (hcur : cur.toList.take l.length = l.map .string) (hl : l.length ≤ 100) (hcap : l.length ≤ cap) (hsz : cur.size = cap) (del : ByteArray → Bool)
    (hd : ∀ W s, s ∈ l → Below g w W → Calls Try.prog 56 #[.string s, pt, pn] W fun e w' => e = .returned (.bool (del s)) ∧ Below W.heap.size W w') :
    Calls Try.prog 55 #[.slice (some ⟨g, 0, none⟩) l.length cap, .func (.func 56) #[] #[pt, pn]] w fun e w' => ∃ cur' : Array Value, e = .returned (.slice (some ⟨g, 0, none⟩) (l.filter fun s => !del s).length cap) ∧ w'.heap[g]? = some (.cells cur' 9 (0, 0)) ∧ cur'.size = cap ∧ cur'.toList.take (l.filter fun s => !del s).length = (l.filter fun s => !del s).map .string ∧ Below g w w' := by
  have hlt := lt_heap hh
  have hidx := fun W (hW : Below w.heap.size w W) => idx_calls pt pn g cap l cur W ((hW.block g hlt).trans hh) hcur hl del (fun W2 s hs hb => hd W2 s hs ((hW.mono (by omega)).trans hb))
  have HI := Go.Lib.hid hidx
  have HH := Go.Lib.hid hh
  have HC := Go.Lib.hid hcur
  have HD := Go.Lib.hid hd
  clear hh hcur hd hidx
  cases hany : l.any del
  · have hf : firstBad del l = -1 := by unfold firstBad; rw [hany]; rfl
    have hfl : (l.filter fun s => !del s) = l := by
      rw [List.filter_eq_self]
      intro s hs
      have := List.any_eq_false.1 hany s hs
      simpa using this
    rw [hfl]
    rw [hf] at HI
    clear hany hf hfl
    go_enter Try.func55, Try.ntmps55
    go_wp2_with (go_at_call 57; refine (HI.out _ (Below.refl _ _)).mono ?_; rintro e w' ⟨rfl, hb⟩)
    go_ret
    exact ⟨cur, rfl, (hb.block g hlt).trans HH.out, hsz, HC.out, hb.mono (by omega)⟩
  · obtain ⟨i0, hi0, hf, hfi⟩ := firstBad_split hany
    rw [hf] at HI
    have HFI := Go.Lib.hid hfi
    have hne : (((i0 : Nat) : Int) == -1) = false := by simp
    clear hany hf hfi
    go_enter Try.func55, Try.ntmps55
    go_wp2_with (go_at_call 57; refine (HI.out _ (Below.refl _ _)).mono ?_; rintro e w1 ⟨rfl, hb0⟩)
    go_loopw [6, 5] (fun v6 v5 W => ∃ (j i : Nat) (cur1 : Array Value), i < j ∧ j ≤ l.length ∧ v6 = .int .i64 j ∧ v5 = .int .i64 i ∧ W.heap[g]? = some (.cells cur1 9 (0, 0)) ∧ cur1.size = cap ∧ cur1.toList.take i = ((l.take j).filter fun s => !del s).map .string ∧ i = ((l.take j).filter fun s => !del s).length ∧ (∀ q, j ≤ q → cur1[q]? = cur[q]?) ∧ Below g w W) (fun v6 _ _ => l.length - (intOf v6).toNat)
    case atStart =>
      refine ⟨i0 + 1, i0, cur, by omega, by omega, by go_num, rfl, (hb0.block g hlt).trans HH.out, hsz, ?_, ?_, fun q _ => rfl, hb0.mono (by omega)⟩
      · rw [HFI.out, List.map_take, ← HC.out, List.take_take]
        congr 1
        omega
      · rw [HFI.out, List.length_take]
        omega
    case round =>
      clear hb0 HI HFI hi0
      obtain ⟨j, i, cur1, hij, hj, rfl, rfl, hg1, hsz1, htk, hlen, hrest, hb⟩ := hrel
      have HTK := Go.Lib.hid htk
      have HRE := Go.Lib.hid hrest
      have HLE := Go.Lib.hid hlen
      clear htk hrest hlen
      by_cases hjt : j < l.length
      · have hc : wr.cell? ⟨g, j, none⟩ = some (.string (l.getD j ByteArray.empty)) := by
          rw [h_cell hg1 j, HRE.out j (by omega)]
          exact cur_s HC.out hjt
        obtain ⟨x0, hx0⟩ : ∃ x, cur1[i]? = some x := ⟨_, Array.getElem?_eq_getElem (by omega)⟩
        have HF := Go.Lib.hid (filter_take del l hjt)
        have hcall := fun W hW => HD.out W _ (mem_s l hjt) hW
        generalize l.getD j ByteArray.empty = s at *
        cases hp : del s
        · rw [hp] at hcall HF
          have HCA := Go.Lib.hid hcall
          have HG := Go.Lib.hid hg1
          clear hp hcall hg1
          go_wp2_with (go_at_call 56; refine (HCA.out _ hb).mono ?_; rintro e w2 ⟨rfl, hb2⟩; have hg2 := (hb2.block g (lt_heap HG.out)).trans HG.out; have hci2 : w2.cell? ⟨g, i, none⟩ = some x0 := (h_cell hg2 i).trans hx0; have hfi2 := h_frozen hg2 i)
          go_roundw
          case rel =>
            have hst := h_set (i := i) hg2 (.string s)
            refine ⟨j + 1, i + 1, _, by omega, by omega, by go_num, by go_num, hst, by simpa using hsz1, ?_, ?_, fun q hq => ?_, ?_⟩
            · rw [HF.out, List.map_append, ← HTK.out, if_neg (by decide)]
              show _ = List.take i cur1.toList ++ [Value.string s]
              rw [Array.toList_setIfInBounds, List.take_set_succ_ (by rw [Array.length_toList]; omega)]
            · rw [HF.out, if_neg (by decide), List.length_append, ← HLE.out]; rfl
            · rw [Array.getElem?_setIfInBounds_ne (by omega)]
              exact HRE.out q (by omega)
            · exact (hb.trans (hb2.mono (by have := lt_heap HG.out; omega))).setCell (Nat.le_refl _) _
          case measure => simp [intOf]; omega
        · rw [hp] at hcall HF
          have HCA := Go.Lib.hid hcall
          have HG := Go.Lib.hid hg1
          clear hp hcall hg1 hx0
          go_wp2_with (go_at_call 56; refine (HCA.out _ hb).mono ?_; rintro e w2 ⟨rfl, hb2⟩)
          go_roundw
          case rel => exact ⟨j + 1, i, cur1, by omega, by omega, by go_num, rfl, (hb2.block g (lt_heap HG.out)).trans HG.out, hsz1, by rw [HF.out, if_pos trivial, List.append_nil]; exact HTK.out, by rw [HF.out, if_pos trivial, List.append_nil]; exact HLE.out, fun q hq => HRE.out q (by omega), hb.trans (hb2.mono (by have := lt_heap HG.out; omega))⟩
          case measure => simp [intOf]; omega
      · have hj2 : j = l.length := by omega
        subst hj2
        obtain ⟨i9, hi9, hz9, hsz9, _⟩ := info_parts info9
        have hcf : ∀ W : World, (Instr.slice 22 (.slice (some ⟨g, 0, none⟩) l.length cap) (some (.int .i64 (i : Int))) none none).run Try.prog W = .ok (.slice (some ⟨g, i, none⟩) (l.length - i) (cap - i)) W := fun W => by
          have := cut_from (P := Try.prog) 22 9 .i64 Try.underlying22 hi9 1 hsz9 (some ⟨g, 0, none⟩) l.length cap (i : Int) (by omega) (by omega) W
          rw [this, if_neg (by omega)]
          simp [Addr.add] <;> omega
        have hct : ∀ W : World, (Instr.slice 22 (.slice (some ⟨g, 0, none⟩) l.length cap) none (some (.int .i64 (i : Int))) none).run Try.prog W = .ok (.slice (some ⟨g, 0, none⟩) i cap) W := fun W => by
          have := cut_to (P := Try.prog) 22 9 .i64 Try.underlying22 hi9 (some ⟨g, 0, none⟩) l.length cap (i : Int) (by omega) (by omega) hcap W
          rw [this]
          rfl
        have hcl : ∀ ty, (Builtin.clear_ #[22] ty #[.slice (some ⟨g, i, none⟩) (l.length - i) (cap - i)]).run Try.prog wr = .ok (.tuple #[]) (wr.setCells g i (List.replicate (l.length - i) (.string ⟨#[]⟩))) := fun ty => by
          refine Lib.run_clear_slice wr 22 9 ty (.string ⟨#[]⟩) Try.underlying22 (fun W => ?_) rfl rfl g i _ _ (by omega) (fun q hq => ?_) (fun q hq => h_frozen hg1 _)
          · simp [go_sem]
          · rw [h_cell hg1, Array.getElem?_eq_getElem (by omega)]; rfl
        obtain ⟨cur2, hg2, hsz2, hl2⟩ := setCells_row (List.replicate (l.length - i) (.string ⟨#[]⟩)) i wr cur1 hg1 (by rw [List.length_replicate]; omega)
        obtain ⟨s1, s2, s3, s4⟩ := setCells_same g (List.replicate (l.length - i) (.string ⟨#[]⟩)) i wr
        have hb3 : Below g wr (wr.setCells g i (List.replicate (l.length - i) (.string ⟨#[]⟩))) := ⟨s1, s2, s3, by rw [s4]; exact Nat.le_refl _, fun k hk => setCells_far _ _ k (by omega)⟩
        have hb4 := hb.trans hb3
        have HG2 := Go.Lib.hid hg2
        have HL2 := Go.Lib.hid hl2
        generalize wr.setCells g i (List.replicate (l.length - i) (.string ⟨#[]⟩)) = w4 at *
        clear hi9 hz9 hsz9 s1 s2 s3 s4 hg2 hl2 hg1
        go_wp2
        go_ret
        have hll : l.take l.length = l := List.take_of_length_le (by omega)
        have h1 := HTK.out
        have h2 := HLE.out
        rw [hll] at h1 h2
        refine ⟨cur2, by rw [← h2]; rfl, HG2.out, by omega, ?_, hb4⟩
        rw [← h2, ← h1, HL2.out, List.append_assoc, List.take_append_of_le_length (by rw [List.length_take, Array.length_toList]; omega), List.take_take, Nat.min_self]
theorem clip_calls (A : Option Addr) (n cap : Nat) (w : World) (hn : n ≤ cap) :
    Calls Try.prog 54 #[.slice A n cap] w fun e w' => e = .returned (.slice A n n) ∧ w' = w := by
  obtain ⟨i9, hi9, hz9, hsz9, _⟩ := info_parts info9
  go_enter Try.func54, Try.ntmps54
  go_wp2
  go_ret
  exact ⟨rfl, rfl⟩
theorem idx_nil (pt pn : Value) (w : World) :
    Calls Try.prog 57 #[.slice none 0 0, .func (.func 56) #[] #[pt, pn]] w fun e w' => e = .returned (.int .i64 (-1)) ∧ w' = w := by
  go_enter Try.func57, Try.ntmps57
  go_wp2
  go_loop [8] (fun v8 => v8 = .int .i64 0) (fun _ => 0)
  case atStart => rfl
  case round =>
    subst hrel
    go_wp2
    go_ret
    exact ⟨rfl, rfl⟩
theorem del_any (pt pn : Value) (v : Value) (l : List ByteArray) (base : Nat) (w : World) (hv : w.ownsRow base 9 1 v l.length (encs Value.string l)) (hbase : base ≤ w.heap.size) (hl : l.length ≤ 100) (del : ByteArray → Bool)
    (hd : ∀ W s, s ∈ l → Below base w W → Calls Try.prog 56 #[.string s, pt, pn] W fun e w' => e = .returned (.bool (del s)) ∧ Below W.heap.size W w') :
    Calls Try.prog 55 #[v, .func (.func 56) #[] #[pt, pn]] w fun e w' => ∃ A c, e = .returned (.slice A (l.filter fun s => !del s).length c) ∧ (l.filter fun s => !del s).length ≤ c ∧ Kd.F Kd.string w' (fun k => base ≤ k) A (l.filter fun s => !del s).length (l.filter fun s => !del s) ∧ Below base w w' := by
  obtain ⟨h1, ⟨rfl, h0⟩ | ⟨g, cap, cur, rfl, hg, hh, hnc, hcm, hcs, ht⟩⟩ := hv
  · obtain rfl := List.eq_nil_of_length_eq_zero h0
    have hi := idx_nil pt pn
    have HI := Go.Lib.hid hi
    clear hi hd h1
    go_enter Try.func55, Try.ntmps55
    go_wp2_with (go_at_call 57; refine (HI.out _).mono ?_; rintro e w' ⟨rfl, rfl⟩)
    go_ret
    exact ⟨none, 0, rfl, Nat.le_refl _, Kd.F_nil _ _ _, Below.refl _ _⟩
  · refine (del_calls pt pn g cap l cur w hh (by rw [Nat.mul_one] at ht; exact ht) hl hnc (by omega) del (fun W s hs hb => hd W s hs (hb.mono hg))).mono ?_
    rintro e w' ⟨cur', rfl, hg', hsz', ht', hb'⟩
    have hlen : (l.filter fun s => !del s).length ≤ cap := Nat.le_trans (List.length_filter_le _ _) hnc
    have ho : w'.ownsRow base 9 1 (.slice (some ⟨g, 0, none⟩) (l.filter fun s => !del s).length cap) (l.filter fun s => !del s).length (encs Value.string (l.filter fun s => !del s)) :=
      ⟨by rw [encs, List.length_map, Nat.mul_one], .inr ⟨g, cap, cur', rfl, hg, hg', hlen, hcm, by omega, by rw [Nat.mul_one, ht']; rfl⟩⟩
    have hR := Kd.R_of_own (h1 := fun _ => rfl) (ok := fun k => base ≤ k) ho (fun k hk => by
      have : g = k := by simpa [Value.ownBlock] using hk
      omega)
    exact ⟨some ⟨g, 0, none⟩, cap, rfl, hlen, (Kd.V_at (Kd.R_V (base' := base) hR)).2.2, hb'.mono hg⟩
def kept (l : List ByteArray) (need : Int) (s : ByteArray) : Bool := !decide (((cnt l s.data.toList : Nat) : Int) < need)
theorem few_ready (w w2 w3 : World) (a2 : Int) (l0 o : List ByteArray) (m : Pre → Nat) (hb2 : Below (w.alloc (.cells #[.int .i64 a2] 3)).heap.size (w.alloc (.cells #[.int .i64 a2] 3)) w2) (hb3 : Below w2.heap.size w2 w3) (hT : Tree w3 w2.heap.size m (cnt l0))
    (hok : ∀ s ∈ o, s.size ≤ 140737488351232 ∧ s.data.toList.all ab = true) :
    Below w.heap.size w (w3.alloc (.cells #[.pointer (some ⟨m [], 0, none⟩)] 53)) ∧ ∀ W s, s ∈ o → Below (w3.alloc (.cells #[.pointer (some ⟨m [], 0, none⟩)] 53)).heap.size (w3.alloc (.cells #[.pointer (some ⟨m [], 0, none⟩)] 53)) W →
      Calls Try.prog 56 #[.string s, .pointer (some ⟨w3.heap.size, 0, none⟩), .pointer (some ⟨w.heap.size, 0, none⟩)] W fun e w' => e = .returned (.bool (!kept l0 a2 s)) ∧ Below W.heap.size W w' := by
  have hb1 : Below w.heap.size w (w.alloc (.cells #[.int .i64 a2] 3)) := (Below.refl _ w).alloc (Nat.le_refl _) _
  have hz1 : (w.alloc (.cells #[.int .i64 a2] 3)).heap.size = w.heap.size + 1 := by simp
  have hb13 := hb2.trans (hb3.mono hb2.size)
  have hz4 : (w3.alloc (.cells #[.pointer (some ⟨m [], 0, none⟩)] 53)).heap.size = w3.heap.size + 1 := by simp
  have hb34 : Below w3.heap.size w3 (w3.alloc (.cells #[.pointer (some ⟨m [], 0, none⟩)] 53)) := (Below.refl _ w3).alloc (Nat.le_refl _) _
  have hb14 := hb13.trans (hb34.mono hb13.size)
  refine ⟨hb1.trans (hb14.mono hb1.size), fun W s hs hW => ?_⟩
  have := hb13.size
  have e : (!kept l0 a2 s) = decide (((cnt l0 s.data.toList : Nat) : Int) < a2) := by simp [kept]
  rw [e]
  refine few_calls s W (hok s hs).1 ((hT.below (Nat.le_refl _) hb34).below (Nat.le_refl _) hW) (hok s hs).2 w3.heap.size w.heap.size a2 ?_ ?_
  · rw [hW.block _ (by omega)]
    exact heap_new rfl
  · rw [hW.block _ (by omega), hb14.block _ (by omega)]
    exact heap_new rfl
def impl_HeavyStep.f (k : Nat) (a0 a1 : List ByteArray) (a2 : Int) : Option (List ByteArray) := (impl_WordsOk.f a0).bind fun t => if t = true then ((impl_HeavyNext.f k a1).bind fun o => if (o.length ≤ 100 ∧ ∀ s ∈ o, s.size ≤ 140737488351232 ∧ s.data.toList.all ab = true) then some (o.filter (kept a0 a2)) else none) else some []
theorem impl_HeavyStep.mono : ∀ a0 a1 a2 k, LeO (impl_HeavyStep.f k a0 a1 a2) (impl_HeavyStep.f (k + 1) a0 a1 a2) := by
  intro a0 a1 a2 k
  unfold impl_HeavyStep.f
  exact LeO.bind (LeO.refl _) (fun t => LeO.ite (LeO.bind (impl_HeavyNext.mono _ _) (fun _ => LeO.refl _)) (LeO.refl _))
set_option maxHeartbeats 2000000 in
theorem impl_HeavyStep.calls (k : Nat) (A0 : Option Addr) (c0 : Nat) (l0 : List ByteArray) (A1 : Option Addr) (c1 : Nat) (l1 : List ByteArray) (a2 : Int) (r : List ByteArray) (w : World) (hr0 : Kd.C Kd.string w A0 l0.length l0) (hc0 : l0.length ≤ c0) (hr1 : Kd.C Kd.string w A1 l1.length l1) (hc1 : l1.length ≤ c1) (h : impl_HeavyStep.f k l0 l1 a2 = some r) :
    Calls Try.prog 34 #[.slice A0 l0.length c0, .slice A1 l1.length c1, .int .i64 a2] w fun e w' => ∃ v0_ : Value, e = .returned (v0_) ∧ Kd.V Kd.string 9 w' w.heap.size (fun k_ => (w.heap.size ≤ k_)) v0_ r ∧ Below w.heap.size w w' := by
  unfold impl_HeavyStep.f at h
  obtain ⟨t, ht, h⟩ := Option.bind_eq_some_iff.1 h
  have hb1 : Below w.heap.size w (w.alloc (.cells #[.int .i64 a2] 3)) := (Below.refl _ w).alloc (Nat.le_refl _) _
  have HW := Go.Lib.hid ht
  have HR0 := Go.Lib.hid hr0
  have HC0 := Go.Lib.hid hc0
  have HR1 := Go.Lib.hid hr1
  have HC1 := Go.Lib.hid hc1
  clear hr0 hc0 hr1 hc1
  cases t
  · rw [if_neg (by decide)] at h
    obtain rfl := Option.some.inj h
    clear h ht
    go_enter Try.func34, Try.ntmps34
    go_wp2_with (go_at_call 21; refine (impl_WordsOk.calls A0 c0 l0 false _ (Kd.C_below HR0.out hb1) HC0.out HW.out).mono ?_; rintro e w2 ⟨rfl, hb⟩)
    go_ret
    exact ⟨_, rfl, Kd.V_nil _ _ _ _ _, hb1.trans (hb.mono hb1.size)⟩
  · rw [if_pos rfl] at h
    obtain ⟨h12, hs⟩ := words_of ht
    have HS := Go.Lib.hid hs
    obtain ⟨o, ho, h⟩ := Option.bind_eq_some_iff.1 h
    split at h
    · rename_i hok
      obtain rfl := Option.some.inj h
      have HO := Go.Lib.hid ho
      have HOK := Go.Lib.hid hok
      have hbn : (w.alloc (.cells #[.int .i64 a2] 3)).heap[w.heap.size]? = some (.cells #[.int .i64 a2] 3 (0, 0)) := heap_new rfl
      have HBN := Go.Lib.hid hbn
      have HB1 := Go.Lib.hid hb1
      have hz1 : (w.alloc (.cells #[.int .i64 a2] 3)).heap.size = w.heap.size + 1 := by simp
      clear h ho hok hs ht hbn hb1
      go_enter Try.func34, Try.ntmps34
      go_wp2_with (first | (go_at_call 21; refine (impl_WordsOk.calls A0 c0 l0 true _ (Kd.C_below HR0.out HB1.out) HC0.out HW.out).mono ?_; rintro e w2 ⟨rfl, hb2⟩) | (go_at_call 52; refine (treeOf_calls A0 c0 l0 _ (Kd.C_below (Kd.C_below HR0.out HB1.out) hb2) h12 HS.out).mono ?_; rintro e w3 ⟨m, rfl, hT, hb3⟩; obtain ⟨hb4, hfew⟩ := few_ready w w2 w3 a2 l0 o m hb2 hb3 hT HOK.out.2; have HF := Go.Lib.hid hfew; clear hfew hT) | (go_at_call 25; refine (impl_HeavyNext.calls k A1 c1 l1 o _ (Kd.C_below HR1.out hb4) HC1.out HO.out).mono ?_; rintro e w5 ⟨v5, rfl, hR, hb5⟩; have HOWN := Go.Lib.hid (Kd.own_of_R (enc := Value.string) (h1 := fun _ => rfl) hR); clear hR) | (go_at_call 55; refine (del_any _ _ v5 o _ _ HOWN.out hb5.size HOK.out.1 (fun s => !kept l0 a2 s) (fun W s hs hW => HF.out W s hs (hb5.trans hW))).mono ?_; rintro e w6 ⟨A6, c6, rfl, hle, hFF, hb6⟩; simp only [Bool.not_not] at hle hFF) | (go_at_call 54; refine (clip_calls A6 _ c6 _ hle).mono ?_; rintro e w7 ⟨rfl, rfl⟩))
      go_ret
      have hbw := hb4.trans ((hb5.trans hb6).mono hb4.size)
      have hF2 := Kd.F_mono hFF (fun k hk => Nat.le_trans hb4.size hk)
      refine ⟨_, rfl, ?_, hbw⟩
      have hV := Kd.V_mk (d := Kd.string) (e := 9) (base := w.heap.size) (Nat.le_refl _) hF2
      exact hV
    · cases h

/-! ### impl_HeavyAll: function 37 -/
mutual
def impl_HeavyAll.j0 : Nat → List ByteArray → Int → Bool → Option (List ByteArray)
  | 0, _, _, _ => none
  | k + 1, x0, x1, x12 => if x12 = true then (some ([] : List ByteArray)) else (impl_HeavyAll.l0 k x0 x1 (([(⟨#[]⟩ : ByteArray)] : List ByteArray)) 0)
def impl_HeavyAll.l0 : Nat → List ByteArray → Int → List ByteArray → Int → Option (List ByteArray)
  | 0, _, _, _, _ => none
  | k + 1, x0, x1, x5, x14 => if x14 < 3 then ((impl_HeavyStep.f k x0 x5 x1).bind fun t165 => (impl_HeavyAll.l0 k x0 x1 t165 (wrap64 (x14 + 1)))) else (some x5)
end
def impl_HeavyAll.f (k : Nat) (l0 : List ByteArray) (a1 : Int) : Option (List ByteArray) := (impl_WordsOk.f l0).bind fun t161 => (if t161 = true then (impl_HeavyAll.j0 k l0 a1 (decide (a1 < 1))) else (impl_HeavyAll.j0 k l0 a1 true))
theorem impl_HeavyAll.mono_l : ∀ k, (∀ y0 y1 y2, LeO (impl_HeavyAll.j0 k y0 y1 y2) (impl_HeavyAll.j0 (k + 1) y0 y1 y2)) ∧ (∀ y0 y1 y2 y3, LeO (impl_HeavyAll.l0 k y0 y1 y2 y3) (impl_HeavyAll.l0 (k + 1) y0 y1 y2 y3))
  | 0 => ⟨fun _ _ _ r h => by simp [impl_HeavyAll.j0] at h, fun _ _ _ _ r h => by simp [impl_HeavyAll.l0] at h⟩
  | k + 1 => by
    obtain ⟨ih0, ih1⟩ := impl_HeavyAll.mono_l k
    refine ⟨?_, ?_⟩
    · intro y0 y1 y2
      unfold impl_HeavyAll.j0
      repeat' first
      | (with_reducible exact ih0 _ _ _)
      | (with_reducible exact ih1 _ _ _ _)
      | (with_reducible exact impl_HeavyStep.mono _ _ _ _)
      | (with_reducible exact LeO.refl _)
      | (with_reducible exact LeO.none _)
      | (with_reducible refine LeO.ite ?_ ?_)
      | (with_reducible refine LeO.bind ?_ (fun _ => ?_))
      | exact ih0 _ _ _
      | exact ih1 _ _ _ _
      | exact impl_HeavyStep.mono _ _ _ _
      | exact LeO.none _
      | refine LeO.ite ?_ ?_
      | refine LeO.bind ?_ (fun _ => ?_)
    · intro y0 y1 y2 y3
      unfold impl_HeavyAll.l0
      repeat' first
      | (with_reducible exact ih0 _ _ _)
      | (with_reducible exact ih1 _ _ _ _)
      | (with_reducible exact impl_HeavyStep.mono _ _ _ _)
      | (with_reducible exact LeO.refl _)
      | (with_reducible exact LeO.none _)
      | (with_reducible refine LeO.ite ?_ ?_)
      | (with_reducible refine LeO.bind ?_ (fun _ => ?_))
      | exact ih0 _ _ _
      | exact ih1 _ _ _ _
      | exact impl_HeavyStep.mono _ _ _ _
      | exact LeO.none _
      | refine LeO.ite ?_ ?_
      | refine LeO.bind ?_ (fun _ => ?_)
theorem impl_HeavyAll.mono : ∀ a0 a1 k, LeO (impl_HeavyAll.f k a0 a1) (impl_HeavyAll.f (k + 1) a0 a1) := by
  intro a0 a1 k
  obtain ⟨ih0, ih1⟩ := impl_HeavyAll.mono_l k
  unfold impl_HeavyAll.f
  repeat' first
      | (with_reducible exact ih0 _ _ _)
      | (with_reducible exact ih1 _ _ _ _)
      | (with_reducible exact impl_HeavyStep.mono _ _ _ _)
      | (with_reducible exact LeO.refl _)
      | (with_reducible exact LeO.none _)
      | (with_reducible refine LeO.ite ?_ ?_)
      | (with_reducible refine LeO.bind ?_ (fun _ => ?_))
      | exact ih0 _ _ _
      | exact ih1 _ _ _ _
      | exact impl_HeavyStep.mono _ _ _ _
      | exact LeO.none _
      | refine LeO.ite ?_ ?_
      | refine LeO.bind ?_ (fun _ => ?_)
set_option maxHeartbeats 8000000 in
set_option maxRecDepth 100000 in
theorem impl_HeavyAll.calls (k : Nat) (A0 : Option Addr) (c0 : Nat) (l0 : List ByteArray) (a1 : Int) (r : List ByteArray) (w : World) (hr0 : Kd.C Kd.string w A0 l0.length l0) (hc0 : l0.length ≤ c0) (h : impl_HeavyAll.f k l0 a1 = some r) :
    Calls Try.prog 37 #[.slice A0 l0.length c0, .int .i64 a1] w fun e w' => ∃ v0_ : Value, e = .returned (v0_) ∧ Kd.V Kd.string 9 w' w.heap.size (fun k_ => (w.heap.size ≤ k_)) v0_ r ∧ Below w.heap.size w w' := by
  have HR0 := Aside0.mk hr0
  have HC0 := Aside0.mk hc0
  clear hr0 hc0
  have HB := Aside0.mk (Below.refl w.heap.size w)
  have H : ((impl_WordsOk.f l0).bind fun t161 => (if t161 = true then (impl_HeavyAll.j0 k l0 a1 (decide (a1 < 1))) else (impl_HeavyAll.j0 k l0 a1 true))) = some r := h
  clear h
  have HC3 := Aside0.mk H
  clear H
  go_enter Try.func37, Try.ntmps37
  go_upto_region 1 with (fail)
  go_cut [12] (fun v12 wc => ∃ (kq : Nat) (x12_2 : Bool), v12 = .bool x12_2 ∧ Aside0 (impl_HeavyAll.j0 kq l0 a1 x12_2 = some r) ∧ Aside0 (kq ≤ k) ∧ Aside0 (Below w.heap.size w wc))
  case first =>
    have H := HC3.out
    clear HC3
    replace H := Option.bind_eq_some_iff.mp H
    obtain ⟨t161, A40, H⟩ := H
    replace H : (if t161 = true then (impl_HeavyAll.j0 k l0 a1 (decide (a1 < 1))) else (impl_HeavyAll.j0 k l0 a1 true)) = some r := H
    have A4 := Aside0.mk A40
    clear A40
    by_cases c5 : t161 = true
    · subst c5
      have H1 : (impl_HeavyAll.j0 k l0 a1 (decide (a1 < 1))) = some r := by rw [if_pos rfl] at H; exact H
      clear H
      have H := H1
      clear H1
      have H' := Aside0.mk H
      clear H
      go_wp2_with (first | ((with_reducible refine gate_callee (f := 21) rfl ?_); refine goesL_ (some 7) rfl rfl Try.func21 (by kernel_rfl) rfl #[.slice A0 l0.length c0] rfl (by (try simp only [List.map_toArray, List.map_cons, List.map_nil]); first | done | rfl | (simp only [List.length_drop, List.length_take]; rfl)) ?_; (with_reducible refine (impl_WordsOk.calls _ _ l0 true _ ?side1 ?side2 A4.out).mono ?_); (case side1 => repeat (first | exact (Kd.C_below HR0.out HB.out) | (with_reducible refine Kd.C_alloc ?_ _) | (with_reducible refine Kd.C_drewN ?_ _) | (with_reducible refine Kd.C_drew ?_))); (case side2 => exact HC0.out); rintro e w6 ⟨rfl, hb⟩; refine ⟨_, rfl, ?_⟩; have n0_ := Aside0.mk (below_step (by repeat (first | (with_reducible first | exact HB.out | apply below_alloc | apply pw_below_drewN | apply below_drew1) | exact HB.out)) hb); clear HB; have HB := n0_; clear n0_; (try clear hb); (try clear hb2); (try clear hk); (try clear hi)))
      go_meet
      case rel => exact ⟨_, (decide (a1 < 1)), (by first | rfl | (simp; done) | (simp [*]; done)), H', ⟨by first | omega | exact Nat.le_refl _⟩, ⟨by repeat (first | (with_reducible first | exact HB.out | apply below_alloc | apply pw_below_drewN | apply below_drew1) | exact HB.out)⟩⟩
    · replace c5 := Bool.eq_false_iff.mpr c5
      subst c5
      have H1 : (impl_HeavyAll.j0 k l0 a1 true) = some r := by rw [if_neg (show ¬ (false = true) by decide)] at H; exact H
      clear H
      have H := H1
      clear H1
      have H' := Aside0.mk H
      clear H
      go_wp2_with (first | ((with_reducible refine gate_callee (f := 21) rfl ?_); refine goesL_ (some 7) rfl rfl Try.func21 (by kernel_rfl) rfl #[.slice A0 l0.length c0] rfl (by (try simp only [List.map_toArray, List.map_cons, List.map_nil]); first | done | rfl | (simp only [List.length_drop, List.length_take]; rfl)) ?_; (with_reducible refine (impl_WordsOk.calls _ _ l0 false _ ?side1 ?side2 A4.out).mono ?_); (case side1 => repeat (first | exact (Kd.C_below HR0.out HB.out) | (with_reducible refine Kd.C_alloc ?_ _) | (with_reducible refine Kd.C_drewN ?_ _) | (with_reducible refine Kd.C_drew ?_))); (case side2 => exact HC0.out); rintro e w7 ⟨rfl, hb⟩; refine ⟨_, rfl, ?_⟩; have n0_ := Aside0.mk (below_step (by repeat (first | (with_reducible first | exact HB.out | apply below_alloc | apply pw_below_drewN | apply below_drew1) | exact HB.out)) hb); clear HB; have HB := n0_; clear n0_; (try clear hb); (try clear hb2); (try clear hk); (try clear hi)))
      go_meet
      case rel => exact ⟨_, (true), (by first | rfl | (simp; done) | (simp [*]; done)), H', ⟨by first | omega | exact Nat.le_refl _⟩, ⟨by repeat (first | (with_reducible first | exact HB.out | apply below_alloc | apply pw_below_drewN | apply below_drew1) | exact HB.out)⟩⟩
  case rest =>
    clear HC3
    try clear c2
    try clear p2
    try clear c3
    try clear c5
    obtain ⟨kq, x12_2, rfl, HA, HJ2, HB⟩ := hcut
    cases kq with
    | zero => exact absurd HA.out (by simp [impl_HeavyAll.j0])
    | succ kj2 =>
      have H := HA.out
      clear HA
      simp only [impl_HeavyAll.j0] at H
      by_cases c8 : x12_2 = true
      · subst c8
        have H1 : (some ([] : List ByteArray)) = some r := by rw [if_pos rfl] at H; exact H
        clear H
        have H := H1
        clear H1
        obtain rfl := Option.some.inj H
        go_wp2
        go_ret
        exact ⟨_, by first | rfl | (simp [errW_none, errW_some] <;> rfl) | (simp [*, errW_none, errW_some] <;> rfl), by first | exact Kd.V_nil _ _ _ _ _ | exact Kd.R_V (Kd.R_nil _ _ _ _ _), by repeat (first | (with_reducible first | exact HB.out | apply below_alloc | apply pw_below_drewN | apply below_drew1) | exact HB.out)⟩
      · replace c8 := Bool.eq_false_iff.mpr c8
        subst c8
        have H1 : (impl_HeavyAll.l0 kj2 l0 a1 (([(⟨#[]⟩ : ByteArray)] : List ByteArray)) 0) = some r := by rw [if_neg (show ¬ (false = true) by decide)] at H; exact H
        clear H
        have H := H1
        clear H1
        obtain ⟨y162, hy162⟩ : ∃ y_ : List ByteArray, y_ = (([(⟨#[]⟩ : ByteArray)] : List ByteArray)) := ⟨_, rfl⟩
        replace H : (impl_HeavyAll.l0 kj2 l0 a1 y162 0) = some r := by first | (rw [hy162]; with_reducible exact H) | (have H2_ := (Option.bind_some _ _).symm.trans H; rw [hy162]; with_reducible exact H2_) | (have H2_ := (Option.bind_some _ _).symm.trans H; with_reducible exact H2_) | with_reducible exact H | (rw [hy162]; exact H) | exact H
        have Ny162 := Aside0.mk hy162
        clear hy162
        have H' := Aside0.mk H
        clear H
        go_wp2_with (first | ((with_reducible refine gate_dst (N := 13) rfl ?_); refine Kd.R_lit Kd.string _ 9 ?hg (N := 13) ?hd (xs := ([(⟨#[]⟩ : ByteArray)] : List ByteArray)) (inner := [.string (⟨#[]⟩ : ByteArray)]) (ok := fun _ => True) (okp := fun _ => True) ?hr ?hp (fun _ hk => hk) trivial (Below.refl _ _) (Nat.le_refl _) (by simp) ?_; (case hd => rfl); (case hg => rfl); (case hr => first | (go_simp; done) | (go_simp; rfl)); (case hp => exact (Reps.one (show Kd.M Kd.string _ _ _ (⟨#[]⟩ : ByteArray) [.string (⟨#[]⟩ : ByteArray)] from rfl) (Reps.none _ _))); intro v163 w9 ho10 hb hg_ hnew_; clear hg_ hnew_; (first | rw [← Ny162.out] at ho10 | (simp only [Int.reduceToNat] at ho10; rw [← Ny162.out] at ho10)); have n0_ := Aside0.mk (Kd.R_lower (Kd.R_newM (M := fun k_ => (w.heap.size ≤ k_)) ho10 (below_size (by repeat (first | (with_reducible first | exact HB.out | apply below_alloc | apply pw_below_drewN | apply below_drew1) | exact HB.out))) (fun k_ h_ => h_)) (below_size (by repeat (first | (with_reducible first | exact HB.out | apply below_alloc | apply pw_below_drewN | apply below_drew1) | exact HB.out)))); have n1_ := Aside0.mk (below_step (by repeat (first | (with_reducible first | exact HB.out | apply below_alloc | apply pw_below_drewN | apply below_drew1) | exact HB.out)) hb); clear HB; have HO164 := n0_; have HB := n1_; clear n0_ n1_; clear hb ho10))
        go_loopg [5, 14] kj2 (fun kq v5 v14 w' => ∃ (x5_2 : List ByteArray) (x14_2 : Int), v14 = .int .i64 x14_2 ∧ Aside0 (impl_HeavyAll.l0 kq l0 a1 x5_2 x14_2 = some r) ∧ Aside0 (kq ≤ kj2) ∧ Aside0 (Kd.V Kd.string 9 w' w.heap.size (fun k_ => (w.heap.size ≤ k_)) v5 x5_2) ∧ Aside0 (Below w.heap.size w w'))
        case atStart => exact ⟨(y162), (0), (by first | rfl | (simp; done) | (simp [*]; done)), H', ⟨Nat.le_refl _⟩, ⟨Kd.R_V (by (with_reducible repeat (first | apply Kd.R_alloc | apply Kd.R_drewN | apply Kd.R_drew)); exact Kd.R_mono HO164.out (fun _ hk => hk.1))⟩, ⟨by repeat (first | (with_reducible first | exact HB.out | apply below_alloc | apply pw_below_drewN | apply below_drew1) | exact HB.out)⟩⟩
        case round =>
          clear H'
          try clear c2
          try clear p2
          try clear c3
          try clear c5
          try clear c8
          try clear p2
          obtain ⟨x5_2, x14_2, rfl, HA, HK2, HO_5, HB⟩ := hrel
          cases gk with
          | zero => exact absurd HA.out (by simp [impl_HeavyAll.l0])
          | succ k2 =>
            have H := HA.out
            clear HA
            simp only [impl_HeavyAll.l0] at H
            by_cases c11 : x14_2 < 3
            · rw [if_pos c11] at H
              have c11b0 : decide (x14_2 < 3) = true := decide_eq_true c11
              clear c11
              replace H := Option.bind_eq_some_iff.mp H
              obtain ⟨t165, A120, H⟩ := H
              replace H : (impl_HeavyAll.l0 k2 l0 a1 t165 (wrap64 (x14_2 + 1))) = some r := H
              have A12 := Aside0.mk A120
              clear A120
              have H' := Aside0.mk H
              clear H
              obtain ⟨Ao13, co13, eo13⟩ := Kd.V_slice HO_5.out
              subst eo13
              go_wp2_with (first | ((with_reducible refine gate_callee (f := 34) rfl ?_); refine goesL_ (some 19) rfl rfl Try.func34 (by kernel_rfl) rfl #[.slice A0 l0.length c0, .slice Ao13 x5_2.length co13, .int .i64 a1] rfl (by (try simp only [List.map_toArray, List.map_cons, List.map_nil]); first | done | rfl | (simp only [List.length_drop, List.length_take]; rfl)) ?_; (with_reducible refine (impl_HeavyStep.calls k2 _ _ l0 _ _ x5_2 a1 t165 _ ?side1 ?side2 ?side3 ?side4 A12.out).mono ?_); (case side1 => repeat (first | exact (Kd.C_below HR0.out HB.out) | (with_reducible refine Kd.C_alloc ?_ _) | (with_reducible refine Kd.C_drewN ?_ _) | (with_reducible refine Kd.C_drew ?_))); (case side2 => exact HC0.out); (case side3 => repeat (first | exact (Kd.V_reads' HO_5.out).2.2 | (with_reducible refine Kd.C_alloc ?_ _) | (with_reducible refine Kd.C_drewN ?_ _) | (with_reducible refine Kd.C_drew ?_))); (case side4 => exact (Kd.V_reads' HO_5.out).2.1); rintro e w14 ⟨v166, rfl, ho0, hb⟩; refine ⟨_, rfl, ?_⟩; have n0_ := Aside0.mk (Kd.V_below (by (with_reducible repeat (first | apply Kd.V_alloc | apply Kd.V_drewN | apply Kd.V_drew)); exact HO_5.out) hb); have n1_ := Aside0.mk (Kd.V_lower (Kd.V_mono (ok' := fun k_ => (w.heap.size ≤ k_)) ho0 (fun k_ hk_ => (Nat.le_trans (below_size (by repeat (first | (with_reducible first | exact HB.out | apply below_alloc | apply pw_below_drewN | apply below_drew1) | exact HB.out))) hk_))) (below_size (by repeat (first | (with_reducible first | exact HB.out | apply below_alloc | apply pw_below_drewN | apply below_drew1) | exact HB.out)))); have n2_ := Aside0.mk (below_step (by repeat (first | (with_reducible first | exact HB.out | apply below_alloc | apply pw_below_drewN | apply below_drew1) | exact HB.out)) hb); clear HO_5; clear HB; have HO_5 := n0_; have HO167 := n1_; have HB := n2_; clear n0_ n1_ n2_; (try clear hb); (try clear hb2); (try clear hk); (try clear hi); (try clear ho0)))
              go_roundg k2
              case measure => have := HJ2.out; have := HK2.out; omega
              case rel => exact ⟨(t165), (wrap64 (x14_2 + 1)), (by first | rfl | (simp; done) | (simp [*]; done)), H', ⟨by have := HJ2.out; have := HK2.out; omega⟩, ⟨by (with_reducible repeat (first | apply Kd.V_alloc | apply Kd.V_drewN | apply Kd.V_drew)); exact HO167.out⟩, ⟨by repeat (first | (with_reducible first | exact HB.out | apply below_alloc | apply pw_below_drewN | apply below_drew1) | exact HB.out)⟩⟩
            · rw [if_neg c11] at H
              have c11b0 : decide (x14_2 < 3) = false := decide_eq_false c11
              clear c11
              obtain rfl := Option.some.inj H
              go_wp2
              go_ret
              exact ⟨_, by first | rfl | (simp [errW_none, errW_some] <;> rfl) | (simp [*, errW_none, errW_some] <;> rfl), by (with_reducible repeat (first | apply Kd.V_alloc | apply Kd.V_drewN | apply Kd.V_drew)); exact HO_5.out, by repeat (first | (with_reducible first | exact HB.out | apply below_alloc | apply pw_below_drewN | apply below_drew1) | exact HB.out)⟩

/-! ### spec_l41Heads: function 49 -/
def spec_l41Heads.l0 : Nat → List ByteArray → Int → Option (Bool)
  | 0, _, _ => none
  | k + 1, x0, x3 => if x3 < (x0.length : Int) then (if 0 ≤ x3 then ((spec_l41Head.f k (rdOf ByteArray.empty x0 x3)).bind fun t169 => (if t169 = true then (if ((rdOf ByteArray.empty x0 x3).size : Int) ≥ 3 then (some false) else (spec_l41Heads.l0 k x0 (wrap64 (x3 + 1)))) else (some false))) else (none)) else (some (decide ((x0.length : Int) ≤ 12)))
def spec_l41Heads.f (k : Nat) (l0 : List ByteArray) : Option (Bool) := spec_l41Heads.l0 k l0 0
theorem spec_l41Heads.mono_l : ∀ k, (∀ y0 y1, LeO (spec_l41Heads.l0 k y0 y1) (spec_l41Heads.l0 (k + 1) y0 y1))
  | 0 => fun _ _ r h => by simp [spec_l41Heads.l0] at h
  | k + 1 => by
    have ih0 := spec_l41Heads.mono_l k
    · intro y0 y1
      unfold spec_l41Heads.l0
      repeat' first
      | (with_reducible exact ih0 _ _)
      | (with_reducible exact spec_l41Head.mono _ _)
      | (with_reducible exact LeO.refl _)
      | (with_reducible exact LeO.none _)
      | (with_reducible refine LeO.ite ?_ ?_)
      | (with_reducible refine LeO.bind ?_ (fun _ => ?_))
      | exact ih0 _ _
      | exact spec_l41Head.mono _ _
      | exact LeO.none _
      | refine LeO.ite ?_ ?_
      | refine LeO.bind ?_ (fun _ => ?_)
theorem spec_l41Heads.mono : ∀ a0 k, LeO (spec_l41Heads.f k a0) (spec_l41Heads.f (k + 1) a0) := by
  intro a0 k
  have ih0 := spec_l41Heads.mono_l k
  unfold spec_l41Heads.f
  repeat' first
      | (with_reducible exact ih0 _ _)
      | (with_reducible exact spec_l41Head.mono _ _)
      | (with_reducible exact LeO.refl _)
      | (with_reducible exact LeO.none _)
      | (with_reducible refine LeO.ite ?_ ?_)
      | (with_reducible refine LeO.bind ?_ (fun _ => ?_))
      | exact ih0 _ _
      | exact spec_l41Head.mono _ _
      | exact LeO.none _
      | refine LeO.ite ?_ ?_
      | refine LeO.bind ?_ (fun _ => ?_)
set_option maxHeartbeats 8000000 in
set_option maxRecDepth 100000 in
theorem spec_l41Heads.calls (k : Nat) (A0 : Option Addr) (c0 : Nat) (l0 : List ByteArray) (r : Bool) (w : World) (hr0 : Kd.C Kd.string w A0 l0.length l0) (hc0 : l0.length ≤ c0) (h : spec_l41Heads.f k l0 = some r) :
    Calls Try.prog 49 #[.slice A0 l0.length c0] w fun e w' => e = .returned (.bool r) ∧ Drawn0 w w' := by
  have HR0 := Aside0.mk hr0
  have HC0 := Aside0.mk hc0
  clear hr0 hc0
  have H : (spec_l41Heads.l0 k l0 0) = some r := h
  clear h
  have H' := Aside0.mk H
  clear H
  go_enter Try.func49, Try.ntmps49
  go_wp2
  go_loopg [3] k (fun kq v3 w' => ∃ (x3_1 : Int), v3 = .int .i64 x3_1 ∧ Aside0 (spec_l41Heads.l0 kq l0 x3_1 = some r) ∧ Aside0 (kq ≤ k) ∧ Drawn0 w w')
  case atStart => exact ⟨(0), (by first | rfl | (simp; done) | (simp [*]; done)), H', ⟨Nat.le_refl _⟩, by repeat (first | exact Drawn0.refl _ | apply Drawn0.step)⟩
  case round =>
    clear H'
    obtain ⟨x3_1, rfl, HA, HK1, ⟨m1, rfl⟩⟩ := hrel
    cases gk with
    | zero => exact absurd HA.out (by simp [spec_l41Heads.l0])
    | succ k1 =>
      have H := HA.out
      clear HA
      simp only [spec_l41Heads.l0] at H
      by_cases c2 : x3_1 < (l0.length : Int)
      · rw [if_pos c2] at H
        have c2b0 : decide (x3_1 < (l0.length : Int)) = true := decide_eq_true c2
        clear c2
        by_cases c3 : 0 ≤ x3_1
        · rw [if_pos c3] at H
          have c3b0 : decide (0 ≤ x3_1) = true := decide_eq_true c3
          clear c3
          replace H := Option.bind_eq_some_iff.mp H
          obtain ⟨t169, A40, H⟩ := H
          replace H : (if t169 = true then (if ((rdOf ByteArray.empty l0 x3_1).size : Int) ≥ 3 then (some false) else (spec_l41Heads.l0 k1 l0 (wrap64 (x3_1 + 1)))) else (some false)) = some r := H
          have A4 := Aside0.mk A40
          clear A40
          by_cases c5 : t169 = true
          · subst c5
            have H1 : (if ((rdOf ByteArray.empty l0 x3_1).size : Int) ≥ 3 then (some false) else (spec_l41Heads.l0 k1 l0 (wrap64 (x3_1 + 1)))) = some r := by rw [if_pos rfl] at H; exact H
            clear H
            have H := H1
            clear H1
            by_cases c6 : ((rdOf ByteArray.empty l0 x3_1).size : Int) ≥ 3
            · rw [if_pos c6] at H
              have c6b0 : decide (3 ≤ ((rdOf ByteArray.empty l0 x3_1).size : Int)) = true := decide_eq_true c6
              have c6b1 : decide (3 ≤ (rdOf ByteArray.empty l0 x3_1).size) = true := decide_eq_true (by omega)
              clear c6
              obtain rfl := Option.some.inj H
              have p168 : 0 ≤ (x3_1 : Int) := of_decide_eq_true (by first | (with_reducible assumption) | assumption)
              have q168 : x3_1 < (l0.length : Int) := of_decide_eq_true (by first | (with_reducible assumption) | assumption)
              obtain ⟨ad168, e168, hx168_0⟩ := Kd.at_string HR0.out x3_1 p168 q168
              cases e168
              replace p168 := eq_true p168
              replace q168 := eq_true q168
              go_wp2_with (first | ((with_reducible refine gate_callee (f := 40) rfl ?_); refine goesL_ (some 14) rfl rfl Try.func40 (by kernel_rfl) rfl #[.string (rdOf ByteArray.empty l0 x3_1)] rfl (by (try simp only [List.map_toArray, List.map_cons, List.map_nil]); first | done | rfl | (simp only [List.length_drop, List.length_take]; rfl)) ?_; (with_reducible refine (spec_l41Head.calls k1 (rdOf ByteArray.empty l0 x3_1) true _ A4.out).mono ?_); rintro e w' ⟨rfl, ⟨nd, rfl⟩⟩; refine ⟨_, rfl, ?_⟩; have p170 : 0 ≤ (x3_1 : Int) := of_decide_eq_true (by first | (with_reducible assumption) | assumption); have q170 : x3_1 < (l0.length : Int) := of_decide_eq_true (by first | (with_reducible assumption) | assumption); obtain ⟨ad170, e170, hx170_0⟩ := Kd.at_string HR0.out x3_1 p170 q170; obtain rfl : ad168 = ad170 := (by injection e170); replace p170 := eq_true p170; replace q170 := eq_true q170))
              go_ret
              exact ⟨by first | rfl | (simp; done) | (simp [*]; done), by repeat (first | exact Drawn0.refl _ | apply Drawn0.step)⟩
            · rw [if_neg c6] at H
              have c6b0 : decide (3 ≤ ((rdOf ByteArray.empty l0 x3_1).size : Int)) = false := decide_eq_false c6
              have c6b1 : decide (3 ≤ (rdOf ByteArray.empty l0 x3_1).size) = false := decide_eq_false (by omega)
              clear c6
              have H' := Aside0.mk H
              clear H
              have p168 : 0 ≤ (x3_1 : Int) := of_decide_eq_true (by first | (with_reducible assumption) | assumption)
              have q168 : x3_1 < (l0.length : Int) := of_decide_eq_true (by first | (with_reducible assumption) | assumption)
              obtain ⟨ad168, e168, hx168_0⟩ := Kd.at_string HR0.out x3_1 p168 q168
              cases e168
              replace p168 := eq_true p168
              replace q168 := eq_true q168
              go_wp2_with (first | ((with_reducible refine gate_callee (f := 40) rfl ?_); refine goesL_ (some 14) rfl rfl Try.func40 (by kernel_rfl) rfl #[.string (rdOf ByteArray.empty l0 x3_1)] rfl (by (try simp only [List.map_toArray, List.map_cons, List.map_nil]); first | done | rfl | (simp only [List.length_drop, List.length_take]; rfl)) ?_; (with_reducible refine (spec_l41Head.calls k1 (rdOf ByteArray.empty l0 x3_1) true _ A4.out).mono ?_); rintro e w' ⟨rfl, ⟨nd, rfl⟩⟩; refine ⟨_, rfl, ?_⟩; have p170 : 0 ≤ (x3_1 : Int) := of_decide_eq_true (by first | (with_reducible assumption) | assumption); have q170 : x3_1 < (l0.length : Int) := of_decide_eq_true (by first | (with_reducible assumption) | assumption); obtain ⟨ad170, e170, hx170_0⟩ := Kd.at_string HR0.out x3_1 p170 q170; obtain rfl : ad168 = ad170 := (by injection e170); replace p170 := eq_true p170; replace q170 := eq_true q170))
              go_roundg k1
              case measure => have := HK1.out; omega
              case rel => exact ⟨(wrap64 (x3_1 + 1)), (by first | rfl | (simp; done) | (simp [*]; done)), H', ⟨by have := HK1.out; omega⟩, by repeat (first | exact Drawn0.refl _ | apply Drawn0.step)⟩
          · replace c5 := Bool.eq_false_iff.mpr c5
            subst c5
            have H1 : (some false) = some r := by rw [if_neg (show ¬ (false = true) by decide)] at H; exact H
            clear H
            have H := H1
            clear H1
            obtain rfl := Option.some.inj H
            have p168 : 0 ≤ (x3_1 : Int) := of_decide_eq_true (by first | (with_reducible assumption) | assumption)
            have q168 : x3_1 < (l0.length : Int) := of_decide_eq_true (by first | (with_reducible assumption) | assumption)
            obtain ⟨ad168, e168, hx168_0⟩ := Kd.at_string HR0.out x3_1 p168 q168
            cases e168
            replace p168 := eq_true p168
            replace q168 := eq_true q168
            go_wp2_with (first | ((with_reducible refine gate_callee (f := 40) rfl ?_); refine goesL_ (some 14) rfl rfl Try.func40 (by kernel_rfl) rfl #[.string (rdOf ByteArray.empty l0 x3_1)] rfl (by (try simp only [List.map_toArray, List.map_cons, List.map_nil]); first | done | rfl | (simp only [List.length_drop, List.length_take]; rfl)) ?_; (with_reducible refine (spec_l41Head.calls k1 (rdOf ByteArray.empty l0 x3_1) false _ A4.out).mono ?_); rintro e w' ⟨rfl, ⟨nd, rfl⟩⟩; refine ⟨_, rfl, ?_⟩))
            go_ret
            exact ⟨by first | rfl | (simp; done) | (simp [*]; done), by repeat (first | exact Drawn0.refl _ | apply Drawn0.step)⟩
        · rw [if_neg c3] at H
          exact absurd H (by simp)
      · rw [if_neg c2] at H
        have c2b0 : decide (x3_1 < (l0.length : Int)) = false := decide_eq_false c2
        clear c2
        obtain rfl := Option.some.inj H
        go_wp2
        go_ret
        exact ⟨by first | rfl | (simp; done) | (simp [*]; done), by repeat (first | exact Drawn0.refl _ | apply Drawn0.step)⟩

end Go.Proofs.Ytdjenclegglmfaa.PFnHeavyAll
