/-
  keep, Of, Kind, Points of the program. Conditions: at most 100000 events.
-/
import Derived.Test.YtbjibpghbaemfaaEv
import Derived.RangeFuncSeq
import Derived.Shelf.Abstract
namespace Go.Proofs.Ytbjibpghbaemfaa
open Go.RowKit Go.Fw Go.Shelf
set_option maxHeartbeats 1000000
set_option maxRecDepth 4000
set_option linter.unusedVariables false
set_option linter.unusedSimpArgs false
/-- a function value that tells something of events, and writes nothing that was -/
structure Asks (w : World) (fid : FuncId) (lb : Array Value) (pr : Ev → Bool) : Prop where
  enter : ∀ (args : Array Value) (w : World), (callFunc fid args).run Try.prog w = .ok (.enter fid args) w
  call : ∀ (x : Ev) (W : World), EvOk x → Below w.heap.size w W → Calls Try.prog fid (#[.agg x.cs] ++ lb) W fun e W' => e = .returned (.bool (pr x)) ∧ Below W.heap.size W W'
theorem filter_snoc {α : Type} (p : α → Bool) (l : List α) (x : α) : (l ++ [x]).filter p = if p x then l.filter p ++ [x] else l.filter p := by
  rw [List.filter_append]
  by_cases h : p x = true
  · simp [h]
  · simp [h]
theorem keep_any (l : List Ev) (A : Option Addr) (c n : Nat) (fid : FuncId) (lb : Array Value) (pr : Ev → Bool) (w : World) (ho : ∀ e ∈ l, EvOk e) (hr : Reads w w.heap.size 34 A n (evs l)) (hl : n ≤ 100000) (ha : Asks w fid lb pr) :
    Calls Try.prog 24 #[.slice A n c, .func (.func fid) #[] lb] w fun e w' => ∃ v, e = .returned v ∧ MineS 34 w w' 58 v (l.filter pr).length (evs (l.filter pr)) := by
  have hn := ev_len ho hr
  have HN := Lib.hid hn
  have HO := Lib.hid ho
  have HA := Lib.hid ha
  have hent := ha.enter
  obtain ⟨z, hE⟩ := elemT
  clear hn ho ha
  go_enter Try.func24, Try.ntmps24
  go_wp2
  go_loopw [5, 10] (fun v i wr => ∃ (k : Nat), k ≤ n ∧ i = .int .i64 k ∧ ∃ (A2 : Option Addr) (c2 n2 : Nat), v = .slice A2 n2 c2 ∧ Hid (n2 = ((l.take k).filter pr).length ∧ MineS 34 w wr 58 v n2 (evs ((l.take k).filter pr)))) (fun _ i _ => n - (intOf i).toNat)
  case atStart => exact ⟨0, Nat.zero_le _, rfl, none, 0, 0, rfl, Lib.hid ⟨rfl, MineS.nil_ 34 w _⟩⟩
  case round =>
    obtain ⟨k, hk, rfl, A2, c2, n2, rfl, HM⟩ := hrel
    by_cases hlt : k < n
    · have hkl : k < l.length := by have := HN.out; omega
      obtain ⟨b, o, rfl, _, hc⟩ := ev_at HO.out (hr.below HM.out.2.below) hkl
      have hx := HO.out _ (List.getElem_mem hkl)
      have hs : l.take (k + 1) = l.take k ++ [l[k]] := List.take_succ_eq_append_getElem hkl
      have hf := filter_snoc pr (l.take k) l[k]
      rw [← hs] at hf
      have HF := Lib.hid hf
      have HX := Lib.hid hx
      clear hs hf hx hr
      generalize l[k] = x at *
      have hsz := HX.out.size
      have hall := HX.out.all
      have hcl := at_cells hc
      have HC := Lib.hid hcl
      have HALL := Lib.hid (And.intro hsz hall)
      clear hc hcl hsz hall
      have hlen : (k : Int) < (n : Int) := by omega
      go_wp2_with (first | (refine wpList_load_at rowT rfl (.tmp 12) rfl ⟨b, o + k * 34, none⟩ (by rfl) x.cs HALL.out.1 HC.out ?_) | (refine wpList_alloc_row rowT rfl rfl ?_) | (refine wpList_store_new rowT rfl (.tmp 7) (.tmp 13) rfl _ rfl (by rfl) x.cs _ (by rfl) _ HALL.out.1 rowT.zc_size HALL.out.2 ?_) | (refine wpList_load_at rowT rfl (.tmp 7) rfl ⟨wr.heap.size, 0, none⟩ (by rfl) x.cs HALL.out.1 (new_cells _ _ _) ?_))
      refine (HA.out.call x _ HX.out (sub_alloc HM.out.2.below _)).mono ?_
      rintro e w1 ⟨rfl, hb1⟩
      have hb := Blk.later (Blk.new_at wr 58 x.cs rfl) hb1
      have hm1 : MineS 34 w w1 58 (.slice A2 n2 c2) n2 (evs ((l.take k).filter pr)) := (HM.out.2.alloc _).later hb1
      have HB := Lib.hid (And.intro hb (And.intro hm1 (And.intro hb1 (blk_cells hb))))
      have hn2 : n2 ≤ k := by
        rw [HM.out.1]
        exact Nat.le_trans (List.length_filter_le _ _) (List.length_take_le _ _)
      clear hb hm1 hb1 hent
      by_cases hp : pr x = true
      · rw [hp]
        have hf := HF.out
        rw [if_pos hp] at hf
        have hes := evs_snoc ((l.take k).filter pr) x
        rw [← hf] at hes
        have HF2 := Lib.hid (And.intro hf hes)
        clear hf hes hp HF
        go_wp2_with (first | (refine wpList_load_at rowT rfl (.tmp 7) rfl ⟨wr.heap.size, 0, none⟩ (by rfl) x.cs HALL.out.1 HB.out.2.2.2 ?_) | (refine wpList_slice1 rowT (by decide) (by decide) rfl 25 (.tmp 18) rfl Try.underlying25 x.cs (by rfl) HALL.out.1 ?_) | (at_builtin; refine wpList_append_oneN (w := w1) (v := .slice A2 n2 c2) (n := n2) (xs := evs ((l.take k).filter pr)) (B := w.heap.size) hE (by decide) rfl (.tmp 17) (.tmp 19) rfl (by rfl) HB.out.2.1.own HB.out.2.1.le rfl (by rfl) HALL.out.1 HX.out.one (by omega) (by unfold maxLen; omega) ?_; intro v' w' hm' hg' hvb; obtain ⟨A3, k3, rfl, _, _⟩ := own_form hm'; have HG := Lib.hid (And.intro hm' (And.intro hg' hvb)); clear hm' hg' hvb))
        go_roundw
        case rel => exact ⟨k + 1, by omega, by go_num, A3, k3, n2 + 1, rfl, Lib.hid ⟨by rw [HF2.out.1, List.length_append, ← HM.out.1]; rfl, by rw [← HF2.out.2]; exact HB.out.2.1.app HG.out.2.1 HG.out.1⟩⟩
        case measure => simp [intOf]; omega
      · have hp2 : pr x = false := by simpa using hp
        rw [hp2]
        have hf := HF.out
        rw [if_neg hp] at hf
        have HF2 := Lib.hid hf
        clear hf hp hp2 HF
        go_wp2
        go_roundw
        case rel => exact ⟨k + 1, by omega, by go_num, A2, c2, n2, rfl, Lib.hid ⟨by rw [HF2.out]; exact HM.out.1, by rw [HF2.out]; exact HB.out.2.1⟩⟩
        case measure => simp [intOf]; omega
    · obtain rfl : k = n := by omega
      have hf : l.take k = l := List.take_of_length_le (by have := HN.out; omega)
      have hm := HM.out
      rw [hf] at hm
      have HM2 := Lib.hid hm
      clear hm hf
      go_wp2
      go_ret
      exact ⟨_, rfl, by rw [← HM2.out.1]; exact HM2.out.2⟩
theorem new_cell {w : World} {t : TypeId} {cs : Array Value} {i : Nat} {v : Value} (h : cs[i]? = some v) : (w.alloc (.cells cs t)).cell? ⟨w.heap.size, i, none⟩ = some v := by rw [World.cell?_alloc_mark]; exact h
theorem of1_any (x : Ev) (t : Int) (p : Nat) (W : World) (hx : EvOk x) (hb : Blk W p 3 #[.int .i64 t]) :
    Calls Try.prog 25 #[.agg x.cs, .pointer (some ⟨p, 0, none⟩)] W fun e W' => e = .returned (.bool (x.task == t)) ∧ Below W.heap.size W W' := by
  have c1 := new_cell (w := W) (t := 58) hx.c1
  have b1 := (hb.alloc (.cells x.cs 58)).cell 0
  simp at b1
  have hbel := sub_alloc (Below.refl W.heap.size W) (.cells x.cs 58)
  go_enter Try.func25, Try.ntmps25
  go_wp2
  go_ret
  exact ⟨rfl, hbel⟩
theorem kind1_any (x : Ev) (t : Int) (p : Nat) (W : World) (hx : EvOk x) (hb : Blk W p 3 #[.int .i64 t]) :
    Calls Try.prog 26 #[.agg x.cs, .pointer (some ⟨p, 0, none⟩)] W fun e W' => e = .returned (.bool (x.kind == t)) ∧ Below W.heap.size W W' := by
  have c1 := new_cell (w := W) (t := 58) hx.c0
  have b1 := (hb.alloc (.cells x.cs 58)).cell 0
  simp at b1
  have hbel := sub_alloc (Below.refl W.heap.size W) (.cells x.cs 58)
  go_enter Try.func26, Try.ntmps26
  go_wp2
  go_ret
  exact ⟨rfl, hbel⟩
theorem points1_any (x : Ev) (W : World) (hx : EvOk x) :
    Calls Try.prog 27 #[.agg x.cs] W fun e W' => e = .returned (.bool (x.kind == 2 || x.kind == 6)) ∧ Below W.heap.size W W' := by
  have c1 := new_cell (w := W) (t := 58) hx.c0
  have hbel := sub_alloc (Below.refl W.heap.size W) (.cells x.cs 58)
  cases h2 : (x.kind == 2) <;> cases h6 : (x.kind == 6)
  all_goals
    go_enter Try.func27, Try.ntmps27
    go_wp2
    go_ret
    exact ⟨rfl, hbel⟩
theorem of_asks (t : Int) (w : World) : Asks (w.alloc (.cells #[.int .i64 t] 3)) 25 #[.pointer (some ⟨w.heap.size, 0, none⟩)] (fun x => x.task == t) :=
  ⟨enters_of Try.func25 (by kernel_rfl) rfl, fun x W hx hb => of1_any x t w.heap.size W hx (Blk.later (Blk.new_at w _ _ rfl) hb)⟩
theorem kind_asks (t : Int) (w : World) : Asks (w.alloc (.cells #[.int .i64 t] 3)) 26 #[.pointer (some ⟨w.heap.size, 0, none⟩)] (fun x => x.kind == t) :=
  ⟨enters_of Try.func26 (by kernel_rfl) rfl, fun x W hx hb => kind1_any x t w.heap.size W hx (Blk.later (Blk.new_at w _ _ rfl) hb)⟩
theorem points_asks (w : World) : Asks w 27 #[] (fun x => x.kind == 2 || x.kind == 6) :=
  ⟨enters_of Try.func27 (by kernel_rfl) rfl, fun x W hx hb => points1_any x W hx⟩
theorem of_any (l : List Ev) (A : Option Addr) (c n : Nat) (t : Int) (w : World) (ho : ∀ e ∈ l, EvOk e) (hr : Reads w w.heap.size 34 A n (evs l)) (hl : n ≤ 100000) :
    Calls Try.prog 18 #[.slice A n c, .int .i64 t] w fun e w' => ∃ v, e = .returned v ∧ MineS 34 w w' 58 v (l.filter fun x => x.task == t).length (evs (l.filter fun x => x.task == t)) := by
  have hb := sub_alloc (Below.refl w.heap.size w) (.cells #[.int .i64 t] 3)
  have HK := Lib.hid (keep_any l A c n _ _ _ _ ho (hr.up hb) hl (of_asks t w))
  clear hr
  go_enter Try.func18, Try.ntmps18
  go_wp2_with fail
  refine HK.out.mono ?_
  rintro e w1 ⟨v, rfl, hm⟩
  have HM := Lib.hid (hm.lower hb)
  clear hm
  go_wp2
  go_ret
  exact ⟨_, rfl, HM.out⟩
theorem kind_any (l : List Ev) (A : Option Addr) (c n : Nat) (t : Int) (w : World) (ho : ∀ e ∈ l, EvOk e) (hr : Reads w w.heap.size 34 A n (evs l)) (hl : n ≤ 100000) :
    Calls Try.prog 19 #[.slice A n c, .int .i64 t] w fun e w' => ∃ v, e = .returned v ∧ MineS 34 w w' 58 v (l.filter fun x => x.kind == t).length (evs (l.filter fun x => x.kind == t)) := by
  have hb := sub_alloc (Below.refl w.heap.size w) (.cells #[.int .i64 t] 3)
  have HK := Lib.hid (keep_any l A c n _ _ _ _ ho (hr.up hb) hl (kind_asks t w))
  clear hr
  go_enter Try.func19, Try.ntmps19
  go_wp2_with fail
  refine HK.out.mono ?_
  rintro e w1 ⟨v, rfl, hm⟩
  have HM := Lib.hid (hm.lower hb)
  clear hm
  go_wp2
  go_ret
  exact ⟨_, rfl, HM.out⟩
theorem points_any (l : List Ev) (A : Option Addr) (c n : Nat) (w : World) (ho : ∀ e ∈ l, EvOk e) (hr : Reads w w.heap.size 34 A n (evs l)) (hl : n ≤ 100000) :
    Calls Try.prog 20 #[.slice A n c] w fun e w' => ∃ v, e = .returned v ∧ MineS 34 w w' 58 v (l.filter fun x => x.kind == 2 || x.kind == 6).length (evs (l.filter fun x => x.kind == 2 || x.kind == 6)) := by
  have HK := Lib.hid (keep_any l A c n _ _ _ _ ho hr hl (points_asks w))
  clear hr
  go_enter Try.func20, Try.ntmps20
  go_wp2_with fail
  refine HK.out.mono ?_
  rintro e w1 ⟨v, rfl, hm⟩
  have HM := Lib.hid hm
  clear hm
  go_wp2
  go_ret
  exact ⟨_, rfl, HM.out⟩
end Go.Proofs.Ytbjibpghbaemfaa
