/-
  The reference's Of, Kind, Points; same; Replies. Conditions: at most 100000 events.
-/
import Derived.Test.YtbjibpghbaemfaaEvK
namespace Go.Proofs.Ytbjibpghbaemfaa
open Go.RowKit Go.Fw Go.Shelf
set_option maxHeartbeats 1000000
set_option maxRecDepth 4000
set_option linter.unusedVariables false
set_option linter.unusedSimpArgs false
theorem elemE : ∃ z, ElemS Try.prog 22 52 z 34 280 := by
  have h : (Try.prog.info? 52).map (fun i => (i.zero.isSome, i.size, i.bytes)) = some (true, 34, 280) := by kernel_rfl
  have hz := rowE.zero
  cases hi : Try.prog.info? 52 with
  | none => simp [hi] at h
  | some i =>
    cases hzz : i.zero with
    | none => simp [hi, hzz] at h
    | some z =>
      simp [hi, hzz] at h hz
      exact ⟨z, Try.underlying22, by simp [hi, hzz, h], hz⟩
theorem rof_any (l : List Ev) (A : Option Addr) (c n : Nat) (t : Int) (w : World) (ho : ∀ e ∈ l, EvOk e) (hr : Reads w w.heap.size 34 A n (evs l)) (hl : n ≤ 100000) :
    Calls Try.prog 16 #[.slice A n c, .int .i64 t] w fun e w' => ∃ v, e = .returned v ∧ MineS 34 w w' 52 v (l.filter fun x => x.task == t).length (evs (l.filter fun x => x.task == t)) := by
  have hn := ev_len ho hr
  have HN := Lib.hid hn
  have HO := Lib.hid ho
  obtain ⟨z, hE⟩ := elemE
  clear hn ho
  go_enter Try.func16, Try.ntmps16
  go_wp2
  go_loopw [5, 6] (fun v i wr => ∃ (k : Nat), k ≤ n ∧ i = .int .i64 k ∧ ∃ (A2 : Option Addr) (c2 n2 : Nat), v = .slice A2 n2 c2 ∧ Hid (n2 = ((l.take k).filter fun x => x.task == t).length ∧ MineS 34 w wr 52 v n2 (evs ((l.take k).filter fun x => x.task == t)))) (fun _ i _ => n - (intOf i).toNat)
  case atStart => exact ⟨0, Nat.zero_le _, rfl, none, 0, 0, rfl, Lib.hid ⟨rfl, MineS.nil_ 34 w _⟩⟩
  case round =>
    obtain ⟨k, hk, rfl, A2, c2, n2, rfl, HM⟩ := hrel
    by_cases hlt : k < n
    · have hkl : k < l.length := by have := HN.out; omega
      obtain ⟨b, o, rfl, _, hc⟩ := ev_at HO.out (hr.below HM.out.2.below) hkl
      have hx := HO.out _ (List.getElem_mem hkl)
      have hs : l.take (k + 1) = l.take k ++ [l[k]] := List.take_succ_eq_append_getElem hkl
      have hf := filter_snoc (fun x => x.task == t) (l.take k) l[k]
      rw [← hs] at hf
      have HF := Lib.hid hf
      have HX := Lib.hid hx
      clear hs hf hx hr
      generalize l[k] = x at *
      have p1 := hc 1 _ (by simpa using HX.out.c1)
      have hsz := HX.out.size
      have hall := HX.out.all
      have hcl := at_cells hc
      have HC := Lib.hid hcl
      have HALL := Lib.hid (And.intro hsz hall)
      have hn2 : n2 ≤ k := by
        rw [HM.out.1]
        exact Nat.le_trans (List.length_filter_le _ _) (List.length_take_le _ _)
      clear hc hcl hsz hall
      have hlen : (k : Int) < (n : Int) := by omega
      cases hp : (x.task == t) with
      | true =>
        have hf := HF.out
        simp only [hp, if_true] at hf
        have hes := evs_snoc ((l.take k).filter fun x => x.task == t) x
        rw [← hf] at hes
        have HF2 := Lib.hid (And.intro hf hes)
        clear hf hes HF
        go_wp2_with (first | (refine wpList_load_at rowE rfl (.tmp 23) rfl ⟨b, o + k * 34, none⟩ (by rfl) x.cs HALL.out.1 HC.out ?_) | (refine wpList_slice1 rowE (by decide) (by decide) rfl 22 (.tmp 24) rfl Try.underlying22 x.cs (by rfl) HALL.out.1 ?_) | (at_builtin; refine wpList_append_oneN (w := wr) (v := .slice A2 n2 c2) (n := n2) (xs := evs ((l.take k).filter fun x => x.task == t)) (B := w.heap.size) hE (by decide) rfl (.tmp 20) (.tmp 25) rfl (by rfl) HM.out.2.own HM.out.2.le rfl (by rfl) HALL.out.1 HX.out.one (by omega) (by unfold maxLen; omega) ?_; intro v' w' hm' hg' hvb; obtain ⟨A3, k3, rfl, _, _⟩ := own_form hm'; have HG := Lib.hid (And.intro hm' (And.intro hg' hvb)); clear hm' hg' hvb))
        go_roundw
        case rel => exact ⟨k + 1, by omega, by go_num, A3, k3, n2 + 1, rfl, Lib.hid ⟨by rw [HF2.out.1, List.length_append, ← HM.out.1]; rfl, by rw [← HF2.out.2]; exact HM.out.2.app HG.out.2.1 HG.out.1⟩⟩
        case measure => simp [intOf]; omega
      | false =>
        have hf := HF.out
        simp only [hp] at hf
        have HF2 := Lib.hid hf
        clear hf HF
        go_wp2
        go_roundw
        case rel => exact ⟨k + 1, by omega, by go_num, A2, c2, n2, rfl, Lib.hid ⟨by rw [HF2.out]; exact HM.out.1, by rw [HF2.out]; exact HM.out.2⟩⟩
        case measure => simp [intOf]; omega
    · obtain rfl : k = n := by omega
      have hf : l.take k = l := List.take_of_length_le (by have := HN.out; omega)
      have hm := HM.out
      rw [hf] at hm
      have HM2 := Lib.hid hm
      clear hm hf
      go_wp2
      go_ret
      exact ⟨_, rfl, by rw [← HM2.out.1]; exact HM2.out.2⟩
theorem rkind_any (l : List Ev) (A : Option Addr) (c n : Nat) (t : Int) (w : World) (ho : ∀ e ∈ l, EvOk e) (hr : Reads w w.heap.size 34 A n (evs l)) (hl : n ≤ 100000) :
    Calls Try.prog 15 #[.slice A n c, .int .i64 t] w fun e w' => ∃ v, e = .returned v ∧ MineS 34 w w' 52 v (l.filter fun x => x.kind == t).length (evs (l.filter fun x => x.kind == t)) := by
  have hn := ev_len ho hr
  have HN := Lib.hid hn
  have HO := Lib.hid ho
  obtain ⟨z, hE⟩ := elemE
  clear hn ho
  go_enter Try.func15, Try.ntmps15
  go_wp2
  go_loopw [5, 6] (fun v i wr => ∃ (k : Nat), k ≤ n ∧ i = .int .i64 k ∧ ∃ (A2 : Option Addr) (c2 n2 : Nat), v = .slice A2 n2 c2 ∧ Hid (n2 = ((l.take k).filter fun x => x.kind == t).length ∧ MineS 34 w wr 52 v n2 (evs ((l.take k).filter fun x => x.kind == t)))) (fun _ i _ => n - (intOf i).toNat)
  case atStart => exact ⟨0, Nat.zero_le _, rfl, none, 0, 0, rfl, Lib.hid ⟨rfl, MineS.nil_ 34 w _⟩⟩
  case round =>
    obtain ⟨k, hk, rfl, A2, c2, n2, rfl, HM⟩ := hrel
    by_cases hlt : k < n
    · have hkl : k < l.length := by have := HN.out; omega
      obtain ⟨b, o, rfl, _, hc⟩ := ev_at HO.out (hr.below HM.out.2.below) hkl
      have hx := HO.out _ (List.getElem_mem hkl)
      have hs : l.take (k + 1) = l.take k ++ [l[k]] := List.take_succ_eq_append_getElem hkl
      have hf := filter_snoc (fun x => x.kind == t) (l.take k) l[k]
      rw [← hs] at hf
      have HF := Lib.hid hf
      have HX := Lib.hid hx
      clear hs hf hx hr
      generalize l[k] = x at *
      have p1 := hc 0 _ (by simpa using HX.out.c0)
      simp only [Nat.add_zero] at p1
      have hsz := HX.out.size
      have hall := HX.out.all
      have hcl := at_cells hc
      have HC := Lib.hid hcl
      have HALL := Lib.hid (And.intro hsz hall)
      have hn2 : n2 ≤ k := by
        rw [HM.out.1]
        exact Nat.le_trans (List.length_filter_le _ _) (List.length_take_le _ _)
      clear hc hcl hsz hall
      have hlen : (k : Int) < (n : Int) := by omega
      cases hp : (x.kind == t) with
      | true =>
        have hf := HF.out
        simp only [hp, if_true] at hf
        have hes := evs_snoc ((l.take k).filter fun x => x.kind == t) x
        rw [← hf] at hes
        have HF2 := Lib.hid (And.intro hf hes)
        clear hf hes HF
        go_wp2_with (first | (refine wpList_load_at rowE rfl (.tmp 23) rfl ⟨b, o + k * 34, none⟩ (by rfl) x.cs HALL.out.1 HC.out ?_) | (refine wpList_slice1 rowE (by decide) (by decide) rfl 22 (.tmp 24) rfl Try.underlying22 x.cs (by rfl) HALL.out.1 ?_) | (at_builtin; refine wpList_append_oneN (w := wr) (v := .slice A2 n2 c2) (n := n2) (xs := evs ((l.take k).filter fun x => x.kind == t)) (B := w.heap.size) hE (by decide) rfl (.tmp 20) (.tmp 25) rfl (by rfl) HM.out.2.own HM.out.2.le rfl (by rfl) HALL.out.1 HX.out.one (by omega) (by unfold maxLen; omega) ?_; intro v' w' hm' hg' hvb; obtain ⟨A3, k3, rfl, _, _⟩ := own_form hm'; have HG := Lib.hid (And.intro hm' (And.intro hg' hvb)); clear hm' hg' hvb))
        go_roundw
        case rel => exact ⟨k + 1, by omega, by go_num, A3, k3, n2 + 1, rfl, Lib.hid ⟨by rw [HF2.out.1, List.length_append, ← HM.out.1]; rfl, by rw [← HF2.out.2]; exact HM.out.2.app HG.out.2.1 HG.out.1⟩⟩
        case measure => simp [intOf]; omega
      | false =>
        have hf := HF.out
        simp only [hp] at hf
        have HF2 := Lib.hid hf
        clear hf HF
        go_wp2
        go_roundw
        case rel => exact ⟨k + 1, by omega, by go_num, A2, c2, n2, rfl, Lib.hid ⟨by rw [HF2.out]; exact HM.out.1, by rw [HF2.out]; exact HM.out.2⟩⟩
        case measure => simp [intOf]; omega
    · obtain rfl : k = n := by omega
      have hf : l.take k = l := List.take_of_length_le (by have := HN.out; omega)
      have hm := HM.out
      rw [hf] at hm
      have HM2 := Lib.hid hm
      clear hm hf
      go_wp2
      go_ret
      exact ⟨_, rfl, by rw [← HM2.out.1]; exact HM2.out.2⟩
theorem rpoints_any (l : List Ev) (A : Option Addr) (c n : Nat) (w : World) (ho : ∀ e ∈ l, EvOk e) (hr : Reads w w.heap.size 34 A n (evs l)) (hl : n ≤ 100000) :
    Calls Try.prog 21 #[.slice A n c] w fun e w' => ∃ v, e = .returned v ∧ MineS 34 w w' 52 v (l.filter fun x => x.kind == 2 || x.kind == 6).length (evs (l.filter fun x => x.kind == 2 || x.kind == 6)) := by
  have hn := ev_len ho hr
  have HN := Lib.hid hn
  have HO := Lib.hid ho
  obtain ⟨z, hE⟩ := elemE
  clear hn ho
  go_enter Try.func21, Try.ntmps21
  go_wp2
  go_loopw [3, 4] (fun v i wr => ∃ (k : Nat), k ≤ n ∧ i = .int .i64 k ∧ ∃ (A2 : Option Addr) (c2 n2 : Nat), v = .slice A2 n2 c2 ∧ Hid (n2 = ((l.take k).filter fun x => x.kind == 2 || x.kind == 6).length ∧ MineS 34 w wr 52 v n2 (evs ((l.take k).filter fun x => x.kind == 2 || x.kind == 6)))) (fun _ i _ => n - (intOf i).toNat)
  case atStart => exact ⟨0, Nat.zero_le _, rfl, none, 0, 0, rfl, Lib.hid ⟨rfl, MineS.nil_ 34 w _⟩⟩
  case round =>
    obtain ⟨k, hk, rfl, A2, c2, n2, rfl, HM⟩ := hrel
    by_cases hlt : k < n
    · have hkl : k < l.length := by have := HN.out; omega
      obtain ⟨b, o, rfl, _, hc⟩ := ev_at HO.out (hr.below HM.out.2.below) hkl
      have hx := HO.out _ (List.getElem_mem hkl)
      have hs : l.take (k + 1) = l.take k ++ [l[k]] := List.take_succ_eq_append_getElem hkl
      have hf := filter_snoc (fun x => x.kind == 2 || x.kind == 6) (l.take k) l[k]
      rw [← hs] at hf
      have HF := Lib.hid hf
      have HX := Lib.hid hx
      clear hs hf hx hr
      generalize l[k] = x at *
      have p1 := hc 0 _ (by simpa using HX.out.c0)
      simp only [Nat.add_zero] at p1
      have hsz := HX.out.size
      have hall := HX.out.all
      have hcl := at_cells hc
      have HC := Lib.hid hcl
      have HALL := Lib.hid (And.intro hsz hall)
      have hn2 : n2 ≤ k := by
        rw [HM.out.1]
        exact Nat.le_trans (List.length_filter_le _ _) (List.length_take_le _ _)
      clear hc hcl hsz hall
      have hlen : (k : Int) < (n : Int) := by omega
      cases h2 : (x.kind == 2) with
      | true =>
        have hp : (x.kind == 2 || x.kind == 6) = true := by rw [h2]; rfl
        have hf := HF.out
        rw [if_pos (by exact hp)] at hf
        have hes := evs_snoc ((l.take k).filter fun x => x.kind == 2 || x.kind == 6) x
        rw [← hf] at hes
        have HF2 := Lib.hid (And.intro hf hes)
        clear hf hes HF hp
        go_wp2_with (first | (refine wpList_load_at rowE rfl (.tmp 28) rfl ⟨b, o + k * 34, none⟩ (by rfl) x.cs HALL.out.1 HC.out ?_) | (refine wpList_slice1 rowE (by decide) (by decide) rfl 22 (.tmp 29) rfl Try.underlying22 x.cs (by rfl) HALL.out.1 ?_) | (at_builtin; refine wpList_append_oneN (w := wr) (v := .slice A2 n2 c2) (n := n2) (xs := evs ((l.take k).filter fun x => x.kind == 2 || x.kind == 6)) (B := w.heap.size) hE (by decide) rfl (.tmp 25) (.tmp 30) rfl (by rfl) HM.out.2.own HM.out.2.le rfl (by rfl) HALL.out.1 HX.out.one (by omega) (by unfold maxLen; omega) ?_; intro v' w' hm' hg' hvb; obtain ⟨A3, k3, rfl, _, _⟩ := own_form hm'; have HG := Lib.hid (And.intro hm' (And.intro hg' hvb)); clear hm' hg' hvb))
        go_roundw
        case rel => exact ⟨k + 1, by omega, by go_num, A3, k3, n2 + 1, rfl, Lib.hid ⟨by rw [HF2.out.1, List.length_append, ← HM.out.1]; rfl, by rw [← HF2.out.2]; exact HM.out.2.app HG.out.2.1 HG.out.1⟩⟩
        case measure => simp [intOf]; omega
      | false =>
        cases h6 : (x.kind == 6) with
        | true =>
          have hp : (x.kind == 2 || x.kind == 6) = true := by rw [h2, h6]; rfl
          have hf := HF.out
          rw [if_pos (by exact hp)] at hf
          have hes := evs_snoc ((l.take k).filter fun x => x.kind == 2 || x.kind == 6) x
          rw [← hf] at hes
          have HF2 := Lib.hid (And.intro hf hes)
          clear hf hes HF hp
          go_wp2_with (first | (refine wpList_load_at rowE rfl (.tmp 28) rfl ⟨b, o + k * 34, none⟩ (by rfl) x.cs HALL.out.1 HC.out ?_) | (refine wpList_slice1 rowE (by decide) (by decide) rfl 22 (.tmp 29) rfl Try.underlying22 x.cs (by rfl) HALL.out.1 ?_) | (at_builtin; refine wpList_append_oneN (w := wr) (v := .slice A2 n2 c2) (n := n2) (xs := evs ((l.take k).filter fun x => x.kind == 2 || x.kind == 6)) (B := w.heap.size) hE (by decide) rfl (.tmp 25) (.tmp 30) rfl (by rfl) HM.out.2.own HM.out.2.le rfl (by rfl) HALL.out.1 HX.out.one (by omega) (by unfold maxLen; omega) ?_; intro v' w' hm' hg' hvb; obtain ⟨A3, k3, rfl, _, _⟩ := own_form hm'; have HG := Lib.hid (And.intro hm' (And.intro hg' hvb)); clear hm' hg' hvb))
          go_roundw
          case rel => exact ⟨k + 1, by omega, by go_num, A3, k3, n2 + 1, rfl, Lib.hid ⟨by rw [HF2.out.1, List.length_append, ← HM.out.1]; rfl, by rw [← HF2.out.2]; exact HM.out.2.app HG.out.2.1 HG.out.1⟩⟩
          case measure => simp [intOf]; omega
        | false =>
          have hp : (x.kind == 2 || x.kind == 6) = false := by rw [h2, h6]; rfl
          have hf := HF.out
          rw [if_neg (by simp [hp])] at hf
          have HF2 := Lib.hid hf
          clear hf HF hp
          go_wp2
          go_roundw
          case rel => exact ⟨k + 1, by omega, by go_num, A2, c2, n2, rfl, Lib.hid ⟨by rw [HF2.out]; exact HM.out.1, by rw [HF2.out]; exact HM.out.2⟩⟩
          case measure => simp [intOf]; omega
    · obtain rfl : k = n := by omega
      have hf : l.take k = l := List.take_of_length_le (by have := HN.out; omega)
      have hm := HM.out
      rw [hf] at hm
      have HM2 := Lib.hid hm
      clear hm hf
      go_wp2
      go_ret
      exact ⟨_, rfl, by rw [← HM2.out.1]; exact HM2.out.2⟩
end Go.Proofs.Ytbjibpghbaemfaa
