/-
  Where a call is: Find, and the reference's Last. Conditions: at most 100000 events.
-/
import Derived.Test.YtbjibpghbaemfaaAw30
namespace Go.Fw
open Go.RowKit
set_option linter.unusedVariables false
def hit (x : Ev) (kd t n : Int) : Bool := x.kind == kd && x.task == t && x.nth == n
/-- the last place of a kind, a task and a call among the first k -/
def lastI (l : List Ev) (kd t n : Int) : Nat → Int
  | 0 => -1
  | k + 1 => if h : k < l.length then (if hit l[k] kd t n then (k : Int) else lastI l kd t n k) else lastI l kd t n k
theorem lastI_succ {l : List Ev} {k : Nat} (kd t n : Int) (hk : k < l.length) : lastI l kd t n (k + 1) = if hit l[k] kd t n then (k : Int) else lastI l kd t n k := by
  rw [lastI, dif_pos hk]
end Go.Fw
namespace Go.Proofs.Ytbjibpghbaemfaa
open Go.RowKit Go.Fw Go.Shelf
set_option maxHeartbeats 2000000
set_option maxRecDepth 4000
set_option linter.unusedVariables false
set_option linter.unusedSimpArgs false
theorem last_any (l : List Ev) (A : Option Addr) (c n : Nat) (kd t nt : Int) (w : World) (ho : ∀ e ∈ l, EvOk e) (hr : Reads w w.heap.size 34 A n (evs l)) (hl : n ≤ 100000) :
    Calls Try.prog 12 #[.slice A n c, .int .i64 kd, .int .i64 t, .int .i64 nt] w fun e w' => e = .returned (.int .i64 (lastI l kd t nt n)) ∧ w = w' := by
  have hn := ev_len ho hr
  have HN := Lib.hid hn
  have HO := Lib.hid ho
  clear hn ho
  go_enter Try.func12, Try.ntmps12
  go_wp2
  go_loop [9, 10] (fun v i => ∃ (k : Nat) (q : Int), k ≤ n ∧ i = .int .i64 k ∧ v = .int .i64 q ∧ Hid (q = lastI l kd t nt k)) (fun _ i => n - (intOf i).toNat)
  case atStart => exact ⟨0, -1, Nat.zero_le _, rfl, rfl, Lib.hid rfl⟩
  case round =>
    obtain ⟨k, q, hk, rfl, rfl, HQ⟩ := hrel
    by_cases hlt : k < n
    · have hkl : k < l.length := by have := HN.out; omega
      obtain ⟨b, o, rfl, _, hc⟩ := ev_at HO.out hr hkl
      have hx := HO.out _ (List.getElem_mem hkl)
      have hs := lastI_succ kd t nt hkl
      generalize l[k] = x at *
      have p0 := hc 0 _ (by simpa using hx.c0)
      have p1 := hc 1 _ (by simpa using hx.c1)
      have p2 := hc 2 _ (by simpa using hx.c2)
      simp only [Nat.add_zero] at p0
      have hh : hit x kd t nt = (x.kind == kd && x.task == t && x.nth == nt) := rfl
      have HS := Lib.hid (And.intro hs hh)
      have HR := Lib.hid hr
      clear hs hh hc hx hr
      have hlen : (k : Int) < (n : Int) := by omega
      cases b1 : (x.kind == kd) with
      | false =>
        go_wp2
        go_round
        case rel => exact ⟨k + 1, q, by omega, by go_num, rfl, Lib.hid (by rw [HS.out.1, HS.out.2, b1]; exact HQ.out)⟩
        case measure => simp [intOf]; omega
      | true =>
        cases b2 : (x.task == t) with
        | false =>
          go_wp2
          go_round
          case rel => exact ⟨k + 1, q, by omega, by go_num, rfl, Lib.hid (by rw [HS.out.1, HS.out.2, b1, b2]; exact HQ.out)⟩
          case measure => simp [intOf]; omega
        | true =>
          cases b3 : (x.nth == nt) with
          | false =>
            go_wp2
            go_round
            case rel => exact ⟨k + 1, q, by omega, by go_num, rfl, Lib.hid (by rw [HS.out.1, HS.out.2, b1, b2, b3]; exact HQ.out)⟩
            case measure => simp [intOf]; omega
          | true =>
            go_wp2
            go_round
            case rel => exact ⟨k + 1, k, by omega, by go_num, rfl, Lib.hid (by rw [HS.out.1, HS.out.2, b1, b2, b3]; rfl)⟩
            case measure => simp [intOf]; omega
    · obtain rfl : k = n := by omega
      go_wp2
      go_ret
      exact ⟨ret_i (HQ.out), rfl⟩
end Go.Proofs.Ytbjibpghbaemfaa
