/-
  Events as values of thirty-four cells; a list of events that came in; Events. Condition: none.
-/
import Derived.Test.YtbjibpghbaemfaaRow
import Derived.Test.YtbjibpghbaemfaaOwnN
namespace Go.Fw
open Go.RowKit
set_option linter.unusedVariables false
structure Ev where
  cs : Array Value
  kind : Int
  task : Int
  nth : Int
  hi : Int
  lo : Int
def evs (l : List Ev) : List Value := l.flatMap fun e => e.cs.toList
end Go.Fw
namespace Go.Proofs.Ytbjibpghbaemfaa
open Go.RowKit Go.Fw Go.WideShapes Go.ChangeShapes Go.Deep
set_option maxHeartbeats 1000000
set_option maxRecDepth 4000
set_option linter.unusedVariables false
set_option linter.unusedSimpArgs false
theorem rowE : RowT Try.prog 52 34 := ⟨by kernel_rfl, by kernel_rfl, by kernel_rfl⟩
theorem rowT : RowT Try.prog 58 34 := ⟨by kernel_rfl, by kernel_rfl, by kernel_rfl⟩
theorem rowR : RowT Try.prog 43 13 := ⟨by kernel_rfl, by kernel_rfl, by kernel_rfl⟩
theorem rowK : RowT Try.prog 50 2 := ⟨by kernel_rfl, by kernel_rfl, by kernel_rfl⟩
/-- what an event that came in is -/
structure EvOk (e : Ev) : Prop where
  size : e.cs.size = 34
  c0 : e.cs[0]? = some (.int .i64 e.kind)
  c1 : e.cs[1]? = some (.int .i64 e.task)
  c2 : e.cs[2]? = some (.int .i64 e.nth)
  c27 : e.cs[27]? = some (.int .u64 e.hi)
  c28 : e.cs[28]? = some (.int .u64 e.lo)
  one : ∀ u ∈ e.cs.toList, u.oneCell' = true
  lits : ∃ ls, Try.prog.keyLits 5 52 e.cs.toList = some ls
  rlits : ∃ ls, Try.prog.keyLits 4 43 ((e.cs.toList.drop 14).take 13) = some ls
  kindIn : In64 e.kind
  taskIn : In64 e.task
  nthIn : In64 e.nth
  hiIn : 0 ≤ e.hi ∧ e.hi ≤ 18446744073709551615
  loIn : 0 ≤ e.lo ∧ e.lo ≤ 18446744073709551615
theorem EvOk.all {e : Ev} (h : EvOk e) : e.cs.all (·.oneCell') = true := Array.all_eq_true_iff_forall_mem.2 fun u hu => h.one u (Array.mem_toList_iff.2 hu)
theorem evs_length (l : List Ev) (h : ∀ e ∈ l, EvOk e) : (evs l).length = l.length * 34 := by
  unfold evs
  induction l with
  | nil => rfl
  | cons e l ih =>
    rw [List.flatMap_cons, List.length_append, ih (fun x hx => h x (by simp [hx])), List.length_cons, Array.length_toList, (h e (by simp)).size]
    omega
theorem evs_get (l : List Ev) (h : ∀ e ∈ l, EvOk e) (k j : Nat) (hk : k < l.length) (hj : j < 34) : (evs l)[k * 34 + j]? = l[k].cs[j]? := by
  unfold evs
  induction l generalizing k with
  | nil => simp at hk
  | cons e l ih =>
    have hs := (h e (by simp)).size
    rw [List.flatMap_cons]
    cases k with
    | zero =>
      rw [List.getElem?_append_left (by simp; omega)]
      simp
    | succ k =>
      rw [List.getElem?_append_right (by simp; omega)]
      rw [show (k + 1) * 34 + j - e.cs.toList.length = k * 34 + j by simp; omega]
      rw [ih (fun x hx => h x (by simp [hx])) k (by simpa using hk)]
      rfl
theorem ev_len {w : World} {B n : Nat} {A : Option Addr} {l : List Ev} (ho : ∀ e ∈ l, EvOk e) (h : Reads w B 34 A n (evs l)) : n = l.length := by
  have := h.1
  rw [evs_length l ho] at this
  omega
/-- an event of a list, where it lies -/
theorem ev_at {w : World} {B n k : Nat} {A : Option Addr} {l : List Ev} (ho : ∀ e ∈ l, EvOk e) (h : Reads w B 34 A n (evs l)) (hk : k < l.length) :
    ∃ b o, A = some ⟨b, o, none⟩ ∧ b < B ∧ ∀ j u, l[k].cs.toList[j]? = some u → w.cell? ⟨b, o + k * 34 + j, none⟩ = some u := by
  have hn := ev_len ho h
  obtain ⟨b, o, rfl, hb, hc⟩ := h.base_ (k := k) (by decide) (by omega)
  refine ⟨b, o, rfl, hb, fun j u hu => ?_⟩
  have hs := (ho _ (List.getElem_mem hk)).size
  have hj : j < 34 := by have := (List.getElem?_eq_some_iff.1 hu).1; simpa [hs] using this
  rw [Nat.add_assoc]
  refine hc _ u ?_
  rw [evs_get l ho k j hk hj]
  simpa using hu
theorem elemT : ∃ z, ElemS Try.prog 25 58 z 34 280 := by
  have h : (Try.prog.info? 58).map (fun i => (i.zero.isSome, i.size, i.bytes)) = some (true, 34, 280) := by kernel_rfl
  have hz := rowT.zero
  cases hi : Try.prog.info? 58 with
  | none => simp [hi] at h
  | some i =>
    cases hzz : i.zero with
    | none => simp [hi, hzz] at h
    | some z =>
      simp [hi, hzz] at h hz
      exact ⟨z, Try.underlying25, by simp [hi, hzz, h], hz⟩
theorem evs_snoc (l : List Ev) (e : Ev) : evs l ++ e.cs.toList = evs (l ++ [e]) := by simp [evs]
/-- the same events, as the program's -/
theorem events_any (l : List Ev) (A : Option Addr) (c n : Nat) (w : World) (ho : ∀ e ∈ l, EvOk e) (hr : Reads w w.heap.size 34 A n (evs l)) (hl : n ≤ 100000) :
    Calls Try.prog 9 #[.slice A n c] w fun e w' => ∃ v, e = .returned v ∧ MineS 34 w w' 58 v n (evs l) := by
  have hn := ev_len ho hr
  have HN := Lib.hid hn
  have HO := Lib.hid ho
  obtain ⟨z, hE⟩ := elemT
  clear hn ho
  go_enter Try.func9, Try.ntmps9
  go_wp2
  go_loopw [3, 8] (fun v i wr => ∃ (k : Nat), k ≤ n ∧ i = .int .i64 k ∧ ∃ (A2 : Option Addr) (c2 : Nat), v = .slice A2 k c2 ∧ Hid (MineS 34 w wr 58 v k (evs (l.take k)))) (fun _ i _ => n - (intOf i).toNat)
  case atStart => exact ⟨0, Nat.zero_le _, rfl, none, 0, rfl, Lib.hid (MineS.nil_ 34 w _)⟩
  case round =>
    obtain ⟨k, hk, rfl, A2, c2, rfl, HM⟩ := hrel
    by_cases hlt : k < n
    · have hkl : k < l.length := by have := HN.out; omega
      obtain ⟨b, o, rfl, _, hc⟩ := ev_at HO.out (hr.below HM.out.below) hkl
      have hx := HO.out _ (List.getElem_mem hkl)
      have hs : l.take (k + 1) = l.take k ++ [l[k]] := List.take_succ_eq_append_getElem hkl
      have hes := evs_snoc (l.take k) l[k]
      rw [← hs] at hes
      have HES := Lib.hid hes
      have HX := Lib.hid hx
      clear hs hes hx hr
      generalize l[k] = x at *
      have hsz := HX.out.size
      have hall := HX.out.all
      have hcl := at_cells hc
      have HC := Lib.hid hcl
      have HALL := Lib.hid (And.intro hsz hall)
      clear hc hcl hsz hall
      have hlen : (k : Int) < (n : Int) := by omega
      have hm1 : (wr.alloc (.cells x.cs 52)).ownsRow w.heap.size 58 34 (.slice A2 k c2) k (evs (l.take k)) := HM.out.own.alloc _
      have HM1 := Lib.hid hm1
      have HSZ := Lib.hid HM.out.le
      clear hm1
      go_wp2_with (first | (refine wpList_load_at rowE rfl (.tmp 10) rfl ⟨b, o + k * 34, none⟩ (by rfl) x.cs HALL.out.1 HC.out ?_) | (refine wpList_alloc_row rowE rfl rfl ?_) | (refine wpList_store_new rowE rfl (.tmp 5) (.tmp 11) rfl _ rfl (by rfl) x.cs _ (by rfl) _ HALL.out.1 rowE.zc_size HALL.out.2 ?_) | (refine wpList_load_at rowE rfl (.tmp 5) rfl ⟨wr.heap.size, 0, none⟩ (by rfl) x.cs HALL.out.1 (new_cells _ _ _) ?_) | (refine wpList_slice1 rowT (by decide) (by decide) rfl 25 (.tmp 13) rfl Try.underlying25 x.cs (by rfl) HALL.out.1 ?_) | (at_builtin; refine wpList_append_oneN (w := wr.alloc (.cells x.cs 52)) (v := .slice A2 k c2) (n := k) (xs := evs (l.take k)) (B := w.heap.size) hE (by decide) rfl (.tmp 12) (.tmp 14) rfl (by rfl) HM1.out (Nat.le_trans HSZ.out (by simp)) rfl (by rfl) HALL.out.1 HX.out.one (by omega) (by unfold maxLen; omega) ?_; intro v' w' hm' hg' hvb; obtain ⟨A3, k3, rfl, _, _⟩ := own_form hm'; have HG := Lib.hid (And.intro hm' (And.intro hg' hvb)); clear hm' hg' hvb))
      go_roundw
      case rel => exact ⟨k + 1, by omega, by go_num, A3, k3, rfl, Lib.hid ⟨by rw [← HES.out]; exact HG.out.1, (sub_alloc HM.out.below _).grown HG.out.2.1 (Nat.le_trans HSZ.out (by simp)) fun j hj => (HM1.out.lt j hj).1⟩⟩
      case measure => simp [intOf]; omega
    · obtain rfl : k = n := by omega
      have hf : l.take k = l := List.take_of_length_le (by have := HN.out; omega)
      have hm := HM.out
      rw [hf] at hm
      have HM2 := Lib.hid hm
      clear hm hf
      go_wp2
      go_ret
      exact ⟨_, rfl, HM2.out⟩
end Go.Proofs.Ytbjibpghbaemfaa
