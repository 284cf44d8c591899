/-
  Replies: the replies of a task, in order. Conditions: at most 100000 events.
-/
import Derived.Test.YtbjibpghbaemfaaFind2
namespace Go.Fw
open Go.RowKit
set_option linter.unusedVariables false
/-- an event's reply -/
def Ev.rep (e : Ev) : Array Value := ((e.cs.toList.drop 14).take 13).toArray
def reps (l : List Ev) : List Value := l.flatMap fun e => e.rep.toList
theorem reps_snoc (l : List Ev) (e : Ev) : reps l ++ e.rep.toList = reps (l ++ [e]) := by simp [reps]
end Go.Fw
namespace Go.Proofs.Ytbjibpghbaemfaa
open Go.RowKit Go.Fw Go.Shelf
set_option maxHeartbeats 2000000
set_option maxRecDepth 4000
set_option linter.unusedVariables false
set_option linter.unusedSimpArgs false
theorem EvOk.rep_size {e : Ev} (h : EvOk e) : e.rep.size = 13 := by
  unfold Ev.rep
  simp [h.size]
theorem EvOk.rep_get {e : Ev} (h : EvOk e) {j : Nat} {u : Value} (hu : e.rep.toList[j]? = some u) : e.cs.toList[14 + j]? = some u := by
  unfold Ev.rep at hu
  simp only at hu
  rw [List.getElem?_take] at hu
  split at hu
  · rwa [List.getElem?_drop] at hu
  · cases hu
theorem EvOk.rep_one {e : Ev} (h : EvOk e) : ∀ u ∈ e.rep.toList, u.oneCell' = true := fun u hu => h.one u (by
  unfold Ev.rep at hu
  exact List.mem_of_mem_drop (List.mem_of_mem_take hu))
theorem EvOk.rep_all {e : Ev} (h : EvOk e) : e.rep.all (·.oneCell') = true := Array.all_eq_true_iff_forall_mem.2 fun u hu => h.rep_one u (Array.mem_toList_iff.2 hu)
theorem reps_get (l : List Ev) (h : ∀ e ∈ l, EvOk e) (k j : Nat) (hk : k < l.length) (hj : j < 13) : (reps l)[k * 13 + j]? = l[k].rep[j]? := by
  unfold reps
  induction l generalizing k with
  | nil => simp at hk
  | cons e l ih =>
    have hs := (h e (by simp)).rep_size
    rw [List.flatMap_cons]
    cases k with
    | zero =>
      rw [List.getElem?_append_left (by simp; omega)]
      simp
    | succ k =>
      rw [List.getElem?_append_right (by simp; omega)]
      rw [show (k + 1) * 13 + j - e.rep.toList.length = k * 13 + j by simp; omega]
      rw [ih (fun x hx => h x (by simp [hx])) k (by simpa using hk)]
      rfl
/-- a reply of a list of them, where it lies -/
theorem rep_at {w : World} {B n k : Nat} {A : Option Addr} {l : List Ev} (ho : ∀ e ∈ l, EvOk e) (h : Reads w B 13 A n (reps l)) (hn : n = l.length) (hk : k < l.length) :
    ∃ b o, A = some ⟨b, o, none⟩ ∧ b < B ∧ ∀ j u, l[k].rep.toList[j]? = some u → w.cell? ⟨b, o + k * 13 + j, none⟩ = some u := by
  obtain ⟨b, o, rfl, hb, hc⟩ := h.base_ (k := k) (by decide) (by omega)
  refine ⟨b, o, rfl, hb, fun j u hu => ?_⟩
  have hs := (ho _ (List.getElem_mem hk)).rep_size
  have hj : j < 13 := by have := (List.getElem?_eq_some_iff.1 hu).1; simpa [hs] using this
  rw [Nat.add_assoc]
  refine hc _ u ?_
  rw [reps_get l ho k j hk hj]
  simpa using hu
theorem rep_neq (x : Ev) (h : EvOk x) (w : World) : (binOp .neq 43 (.agg x.rep) (.agg x.rep)).run Try.prog w = .ok (.bool false) w := by
  obtain ⟨ls, hl⟩ := h.rlits
  exact neq_self (m := 4) (by decide) (by kernel_rfl) (by kernel_rfl) x.rep (by rw [h.rep_size]; kernel_rfl) (ls := ls) hl w
theorem elemR : ∃ z, ElemS Try.prog 34 43 z 13 104 := by
  have h : (Try.prog.info? 43).map (fun i => (i.zero.isSome, i.size, i.bytes)) = some (true, 13, 104) := by kernel_rfl
  have hz := rowR.zero
  cases hi : Try.prog.info? 43 with
  | none => simp [hi] at h
  | some i =>
    cases hzz : i.zero with
    | none => simp [hi, hzz] at h
    | some z =>
      simp [hi, hzz] at h hz
      exact ⟨z, Try.underlying34, by simp [hi, hzz, h], hz⟩
theorem replies_any (l : List Ev) (A : Option Addr) (c n : Nat) (t : Int) (w : World) (ho : ∀ e ∈ l, EvOk e) (hr : Reads w w.heap.size 34 A n (evs l)) (hl : n ≤ 100000) :
    Calls Try.prog 14 #[.slice A n c, .int .i64 t] w fun e w' => ∃ v, e = .returned v ∧ MineS 13 w w' 43 v ((l.filter fun x => x.task == t).filter fun x => x.kind == 3).length (reps ((l.filter fun x => x.task == t).filter fun x => x.kind == 3)) := by
  have hn := ev_len ho hr
  have hof : (l.filter fun x => x.task == t).length ≤ 100000 := Nat.le_trans (List.length_filter_le _ _) (by omega)
  have hrp : ((l.filter fun x => x.task == t).filter fun x => x.kind == 3).length ≤ 100000 := Nat.le_trans (List.length_filter_le _ _) hof
  have oof : ∀ e ∈ (l.filter fun x => x.task == t), EvOk e := fun e he => ho e (List.mem_filter.1 he).1
  have orp : ∀ e ∈ ((l.filter fun x => x.task == t).filter fun x => x.kind == 3), EvOk e := fun e he => oof e (List.mem_filter.1 he).1
  have HO := Lib.hid (And.intro ho (And.intro oof orp))
  obtain ⟨z, hE⟩ := elemR
  clear hn ho oof orp
  go_enter Try.func14, Try.ntmps14
  go_wp2_with fail
  refine (of_any l A c n t _ HO.out.1 hr hl).mono ?_
  rintro e w1 ⟨v1, rfl, hm1⟩
  obtain ⟨A1, c1, rfl, _, _, r1⟩ := hm1.form
  have b1 := hm1.below
  clear hm1 hr
  go_wp2_with fail
  refine (kind_any _ A1 c1 _ 3 _ HO.out.2.1 r1 hof).mono ?_
  rintro e w2 ⟨v2, rfl, hm2⟩
  obtain ⟨A2, c2, rfl, _, _, r2⟩ := hm2.form
  have b2 := sub_trans b1 hm2.below
  clear hm2 b1 r1
  have HO2 := Lib.hid HO.out.2.2
  clear HO hof
  generalize hrs : ((l.filter fun x => x.task == t).filter fun x => x.kind == 3) = rs at *
  have HRS := Lib.hid hrs
  clear hrs
  have HB2 := Lib.hid b2
  clear b2
  go_wp2
  go_loopw [5, 13] (fun v i wr => ∃ (k : Nat), k ≤ rs.length ∧ i = .int .i64 k ∧ ∃ (A4 : Option Addr) (c4 : Nat), v = .slice A4 k c4 ∧ Hid (MineS 13 w2 wr 43 v k (reps (rs.take k)))) (fun _ i _ => rs.length - (intOf i).toNat)
  case atStart => exact ⟨0, Nat.zero_le _, rfl, none, 0, rfl, Lib.hid (MineS.nil_ 13 w2 _)⟩
  case round =>
    obtain ⟨k, hk, rfl, A4, c4, rfl, HM⟩ := hrel
    by_cases hlt : k < rs.length
    · obtain ⟨b, o, rfl, _, hc⟩ := ev_at HO2.out (r2.below HM.out.below) hlt
      have hx := HO2.out _ (List.getElem_mem hlt)
      have hs : rs.take (k + 1) = rs.take k ++ [rs[k]] := List.take_succ_eq_append_getElem hlt
      have hes := reps_snoc (rs.take k) rs[k]
      rw [← hs] at hes
      have HES := Lib.hid hes
      have HX := Lib.hid hx
      have HR2 := Lib.hid r2
      clear hs hes hx r2
      generalize rs[k] = x at *
      have hm1 : (wr.alloc (.cells x.cs 58)).ownsRow w2.heap.size 43 13 (.slice A4 k c4) k (reps (rs.take k)) := HM.out.own.alloc _
      have HM1 := Lib.hid hm1
      have HSZ := Lib.hid HM.out.le
      have hrc : ∀ j v, x.rep.toList[j]? = some v → (wr.alloc (.cells x.cs 58)).cell? ((⟨wr.heap.size, 14, none⟩ : Addr).add j) = some v := fun j v hv => by
        have h1 := new_cells wr 58 x.cs (14 + j) v (HX.out.rep_get hv)
        rw [show (⟨wr.heap.size, 14, none⟩ : Addr).add j = ⟨wr.heap.size, 14 + j, none⟩ by unfold Addr.add; split <;> simp_all]
        rwa [show (⟨wr.heap.size, 0, none⟩ : Addr).add (14 + j) = ⟨wr.heap.size, 14 + j, none⟩ by unfold Addr.add; split <;> simp_all] at h1
      have HALL := Lib.hid (And.intro HX.out.size (And.intro HX.out.all (And.intro (at_cells hc) (And.intro HX.out.rep_size (And.intro HX.out.rep_one hrc)))))
      clear hc hm1 hrc
      have hlen : (k : Int) < (rs.length : Int) := by omega
      go_wp2_with (first | (refine wpList_load_at rowT rfl (.tmp 15) rfl ⟨b, o + k * 34, none⟩ (by rfl) x.cs HALL.out.1 HALL.out.2.2.1 ?_) | (refine wpList_alloc_row rowT rfl rfl ?_) | (refine wpList_store_new rowT rfl (.tmp 7) (.tmp 16) rfl _ rfl (by rfl) x.cs _ (by rfl) _ HALL.out.1 rowT.zc_size HALL.out.2.1 ?_) | (refine wpList_load_at rowR rfl (.tmp 18) rfl ⟨wr.heap.size, 14, none⟩ (by rfl) x.rep HALL.out.2.2.2.1 HALL.out.2.2.2.2.2 ?_) | (refine wpList_slice1 rowR (by decide) (by decide) rfl 34 (.tmp 19) rfl Try.underlying34 x.rep (by rfl) HALL.out.2.2.2.1 ?_) | (at_builtin; refine wpList_append_oneN (w := wr.alloc (.cells x.cs 58)) (v := .slice A4 k c4) (n := k) (xs := reps (rs.take k)) (B := w2.heap.size) hE (by decide) rfl (.tmp 17) (.tmp 20) rfl (by rfl) HM1.out (Nat.le_trans HSZ.out (by simp)) rfl (by rfl) HALL.out.2.2.2.1 HALL.out.2.2.2.2.1 (by omega) (by unfold maxLen; omega) ?_; intro v' w' hm' hg' hvb; obtain ⟨A3, k3, rfl, _, _⟩ := own_form hm'; have HG := Lib.hid (And.intro hm' (And.intro hg' hvb)); clear hm' hg' hvb))
      go_roundw
      case rel => exact ⟨k + 1, by omega, by go_num, A3, k3, rfl, Lib.hid ⟨by rw [← HES.out]; exact HG.out.1, (sub_alloc HM.out.below _).grown HG.out.2.1 (Nat.le_trans HSZ.out (by simp)) fun j hj => (HM1.out.lt j hj).1⟩⟩
      case measure => simp [intOf]; omega
    · obtain rfl : k = rs.length := by omega
      have hf : rs.take rs.length = rs := List.take_of_length_le (Nat.le_refl _)
      have hm := HM.out
      rw [hf] at hm
      have HM2 := Lib.hid (hm.lower HB2.out)
      clear hm hf
      go_wp2
      go_ret
      exact ⟨_, rfl, by rw [HRS.out]; exact HM2.out⟩
end Go.Proofs.Ytbjibpghbaemfaa
