/-
  Rwlock's Waiting, Free, fits, give; and whether a number is in a list. Condition: none.
-/
import Derived.Test.YtlkappmielllcaaRwPlain
import Derived.Test.YtlkappmielllcaaKeep
import Derived.Test.YtlkappmielllcaaArgs
namespace Go.Proofs.Ytlkappmielllcaa
open Go.RowKit Go.Fw
set_option maxHeartbeats 1000000
set_option maxRecDepth 4000
set_option linter.unusedVariables false
set_option linter.unusedSimpArgs false

theorem elemInt : ElemS Try.prog 33 3 (.int .i64 0) 1 8 := ⟨Try.underlying33, by kernel_rfl, rfl⟩
theorem elemWantL : ElemS Try.prog 25 60 (.agg #[.int .i64 0, .bool false]) 2 16 := ⟨Try.underlying25, by kernel_rfl, rfl⟩
def tasksL (l : List (Int × Bool)) : List Int := l.map (·.1)
theorem want_len {w : World} {B n : Nat} {A : Option Addr} {l : List (Int × Bool)} (h : Reads w B 2 A n (lineV l)) : n = l.length := by
  have := h.1
  rw [lineV_length] at this
  omega
theorem want_at {w : World} {B n k : Nat} {A : Option Addr} {l : List (Int × Bool)} (h : Reads w B 2 A n (lineV l)) (hk : k < l.length) :
    ∃ b o, A = some ⟨b, o, none⟩ ∧ b < B ∧ w.cell? ⟨b, o + k * 2, none⟩ = some (.int .i64 l[k].1) ∧ w.cell? ⟨b, o + k * 2 + 1, none⟩ = some (.bool l[k].2) := by
  obtain ⟨b, o, rfl, hb, hc⟩ := h.elem wantC_length (by decide) (want_len h) hk
  exact ⟨b, o, rfl, hb, hc 0 _ rfl, hc 1 _ rfl⟩
theorem waiting_nil (w : World) : Calls Try.prog 13 #[.pointer none] w fun e w' => e = .returned (.slice none 0 0) ∧ w = w' := by
  go_enter Try.func13, Try.ntmps13
  go_wp2
  go_ret
  exact ⟨rfl, rfl⟩
theorem waiting_any (p B : Nat) (ty : TypeId) (rest : List Value) (sl : Value) (l : Lk) (w : World) (h : LockAt w p B ty rest sl l) (hn : l.line.length ≤ 1000) :
    Calls Try.prog 13 #[.pointer (some ⟨p, 0, none⟩)] w fun e w' => ∃ v, e = .returned v ∧ MineS 1 w w' 3 v l.line.length (i64s (tasksL l.line)) := by
  have c2 := h.c2
  obtain ⟨A, c, rfl, _, _, hr⟩ := h.2.form
  generalize l.line = ln at *
  clear h
  generalize hl : ln.length = n at *
  have HL := Lib.hid hl
  clear hl
  go_enter Try.func13, Try.ntmps13
  go_wp2
  go_loopw [3, 13] (fun v i wr => ∃ (k : Nat), k ≤ n ∧ i = .int .i64 k ∧ MineS 1 w wr 3 v k (i64s (tasksL (ln.take k)))) (fun _ i _ => n - (intOf i).toNat)
  case atStart => exact ⟨0, by omega, rfl, MineS.nil_at 1 (Below.refl _ _) _⟩
  case round =>
    obtain ⟨k, hk, rfl, hm⟩ := hrel
    by_cases hlt : k < n
    · have hkl : k < ln.length := by have := HL.out; omega
      obtain ⟨bl, off, rfl, hbl, g0, g1⟩ := want_at (hr.up hm.below) hkl
      have hs : ln.take (k + 1) = ln.take k ++ [ln[k]] := List.take_succ_eq_append_getElem hkl
      generalize ln[k] = t at *
      have HS := Lib.hid hs
      obtain ⟨x0, x1⟩ := t
      simp only at g0 g1
      have hm2 := hm.alloc (.cells #[.int .i64 x0, .bool x1] 60)
      have hlew := hm.le
      clear hs
      go_wp2_with (at_builtin; go_must (refine wpList_append_oneG elemInt (by decide) rfl (.tmp 17) (.tmp 20) rfl rfl hm2.own hm2.le (by simp) rfl rfl (by simp [Value.oneCell']) (by omega) (by unfold maxLen; omega) ?_); intro v' w' hm' hg')
      go_roundw
      case rel =>
        refine ⟨k + 1, by omega, by go_num, ?_⟩
        have h3 := hm2.app hg' hm'
        rw [HS.out]
        simpa [tasksL, i64s] using h3
      case measure => simp [intOf]; omega
    · have hkn : k = n := by omega
      have e : ln.take k = ln := List.take_of_length_le (by have := HL.out; omega)
      rw [e, hkn] at hm
      clear e hkn
      go_wp2
      go_ret
      exact ⟨_, rfl, hm⟩
theorem fits_any (p B : Nat) (ty : TypeId) (rest : List Value) (sl : Value) (l : Lk) (b : Bool) (w : World) (h : LockAt w p B ty rest sl l) :
    Calls Try.prog 27 #[.pointer (some ⟨p, 0, none⟩), .bool b] w fun e w' => e = .returned (.bool (fitsB l b)) ∧ w = w' := by
  have c0 := h.c0
  have c1 := h.c1
  have hh : fitsB l b = (decide (l.w = 0) && (!b || decide (l.r = 0))) := rfl
  have HH := Lib.hid hh
  clear hh h
  generalize l.w = x at *
  generalize l.r = y at *
  by_cases hx : x = 0
  · have d2 : ((x : Int) == 0) = true := by simp; omega
    by_cases hy : y = 0
    · have d3 : ((y : Int) == 0) = true := by simp; omega
      have HX : Hid (fitsB l b = true) := by show _ = _; rw [HH.out]; simp [hx, hy]
      clear hx hy HH
      cases b
      all_goals
        go_enter Try.func27, Try.ntmps27
        go_wp2
        go_ret
        exact ⟨ret_b HX.out.symm, rfl⟩
    · have d3 : ((y : Int) == 0) = false := by simp; omega
      have HX : Hid (fitsB l b = !b) := by show _ = _; rw [HH.out]; simp [hx, hy]
      clear hx hy HH
      cases b
      all_goals
        go_enter Try.func27, Try.ntmps27
        go_wp2
        go_ret
        exact ⟨ret_b HX.out.symm, rfl⟩
  · have d2 : ((x : Int) == 0) = false := by simp; omega
    have HX : Hid (fitsB l b = false) := by show _ = _; rw [HH.out]; simp [hx]
    clear hx HH
    go_enter Try.func27, Try.ntmps27
    go_wp2
    go_ret
    exact ⟨ret_b HX.out.symm, rfl⟩
def freeB (l : Lk) : Bool := decide (l.r ||| l.w = 0)
theorem free_any (p B : Nat) (ty : TypeId) (rest : List Value) (sl : Value) (l : Lk) (w : World) (h : LockAt w p B ty rest sl l) (hl : l.ok) :
    Calls Try.prog 18 #[.pointer (some ⟨p, 0, none⟩)] w fun e w' => e = .returned (.bool (freeB l)) ∧ ∃ m, w' = w.drewN m := by
  have c0 := h.c0
  have c1 := h.c1
  have a1 := m32_or l.r l.w hl.r hl.w
  have hh : freeB l = decide (l.r ||| l.w = 0) := rfl
  have HH := Lib.hid hh
  clear hh h hl
  generalize l.w = x at *
  generalize l.r = y at *
  generalize y ||| x = z at *
  by_cases hz : z = 0
  · have d : ((z : Int) == 0) = true := by simp; omega
    have HX : Hid (freeB l = true) := by show _ = _; rw [HH.out]; simp [hz]
    clear hz HH
    go_enter Try.func18, Try.ntmps18
    go_wp2
    go_quiet (fail)
    go_wp2
    go_ret
    exact ⟨ret_b HX.out.symm, _, rfl⟩
  · have d : ((z : Int) == 0) = false := by simp; omega
    have HX : Hid (freeB l = false) := by show _ = _; rw [HH.out]; simp [hz]
    clear hz HH
    go_enter Try.func18, Try.ntmps18
    go_wp2
    go_quiet (fail)
    go_wp2
    go_ret
    exact ⟨ret_b HX.out.symm, _, rfl⟩
theorem free_nil (w : World) : Calls Try.prog 18 #[.pointer none] w fun e w' => e = .returned (.bool true) ∧ ∃ m, w' = w.drewN m := by
  go_enter Try.func18, Try.ntmps18
  go_wp2
  go_quiet (fail)
  go_wp2
  go_ret
  exact ⟨rfl, _, rfl⟩
def indexF (t : Int) : List Int → Int → Int
  | [], _ => -1
  | x :: r, k => if x = t then k else indexF t r (k + 1)
theorem indexF_nonneg (t : Int) (l : List Int) : ∀ (k : Int), 0 ≤ k → decide (0 ≤ indexF t l k) = decide (t ∈ l) := by
  induction l with
  | nil => intro k _; rfl
  | cons x r ih =>
    intro k hk
    rw [indexF]
    by_cases h : x = t
    · rw [if_pos h]; simp [h]; exact hk
    · rw [if_neg h, ih (k + 1) (by omega)]
      simp [Ne.symm h]
theorem index_any (l : List Int) (A : Option Addr) (c n : Nat) (t : Int) (w : World) (hr : Reads w w.heap.size 1 A n (i64s l)) (hn : n ≤ 100000) :
    Calls Try.prog 35 #[.slice A n c, .int .i64 t] w fun e w' => e = .returned (.int .i64 (indexF t l 0)) ∧ w = w' := by
  have hl : n = l.length := by have := hr.1; simp [i64s] at this; omega
  have HL := Lib.hid hl
  clear hl
  go_enter Try.func35, Try.ntmps35
  go_wp2
  go_loopw [8] (fun i wr => ∃ (k : Nat), k ≤ n ∧ i = .int .i64 k ∧ w = wr ∧ Hid (indexF t l 0 = indexF t (l.drop k) k)) (fun i _ => n - (intOf i).toNat)
  case atStart => exact ⟨0, by omega, rfl, rfl, Lib.hid (by simp)⟩
  case round =>
    obtain ⟨k, hk, rfl, rfl, HI⟩ := hrel
    by_cases hlt : k < n
    · have hkl : k < l.length := by have := HL.out; omega
      obtain ⟨ad, u, rfl, _, hux, hc⟩ := hr.at_ hlt
      obtain rfl := i64s_get hux hkl
      have hs : l.drop k = l[k] :: l.drop (k + 1) := List.drop_eq_getElem_cons hkl
      generalize l[k] = x at *
      have HS := Lib.hid hs
      clear hs hux
      by_cases hx : x = t
      · subst hx
        have HX : Hid (indexF x l 0 = k) := by show _ = _; rw [HI.out, HS.out, indexF, if_pos rfl]
        go_wp2
        go_ret
        exact ⟨ret_i HX.out.symm, rfl⟩
      · have hx2 : ¬ t = x := fun e => hx e.symm
        have HX : Hid (indexF t l 0 = indexF t (l.drop (k + 1)) (k + 1)) := by show _ = _; rw [HI.out, HS.out, indexF, if_neg hx]
        clear hx
        go_wp2
        go_roundw
        case rel => exact ⟨k + 1, by omega, by go_num, trivial, Lib.hid (by rw [HX.out]; push_cast; rfl)⟩
        case measure => simp [intOf]; omega
    · have e : l.drop k = [] := List.drop_eq_nil_of_le (by have := HL.out; omega)
      have HX : Hid (indexF t l 0 = -1) := by show _ = _; rw [HI.out, e]; rfl
      clear e
      go_wp2
      go_ret
      exact ⟨ret_i HX.out.symm, rfl⟩
end Go.Proofs.Ytlkappmielllcaa
