/-
  The walks of can, Next and Open of chapter 27, and of the reference's. Conditions: few tasks, small numbers.
-/
import Derived.Test.YtenjhklkljeijaaSchWalk
namespace Go.Proofs.Ytenjhklkljeijaa
open Go.RowKit Go.Fw
set_option maxHeartbeats 1000000
set_option maxRecDepth 4000
set_option linter.unusedVariables false
set_option linter.unusedSimpArgs false

theorem m_over (a : Addr) (w : World) : (method 176 52 (.pointer (some a)) "Over").run Try.prog w = .ok (39, .pointer (some a)) w := by kernel_rfl
theorem m_ready (a : Addr) (w : World) : (method 176 52 (.pointer (some a)) "Ready").run Try.prog w = .ok (40, .pointer (some a)) w := by kernel_rfl
theorem m_step (a : Addr) (w : World) : (method 176 52 (.pointer (some a)) "Step").run Try.prog w = .ok (41, .pointer (some a)) w := by kernel_rfl

theorem can_any (e : Option Nat) (cb : Nat) (t : Toy) (u : Int) (w : World) (h : TkOk w cb e t) (hc : Blk w cb 51 #[.int .i64 u]) (hok : t.ok) (hf : t.few) (hu : 0 ≤ u ∧ u ≤ 100000) :
    Calls Try.prog 23 #[tkV e] w fun e w' => e = .returned (.bool (readyT t u)) ∧ Below w.heap.size w w' := by
  cases e with
  | none =>
    have hl : t.left < 1 := h
    have HF : Hid (readyT t u = false) := by show _ = _; unfold readyT; rw [if_pos hl]
    unfold tkV
    go_enter Try.func23, Try.ntmps23
    go_wp2
    go_ret
    exact ⟨ret_b HF.out.symm, Below.refl _ _⟩
  | some p =>
    have hb : Blk w p 54 (toyC t cb) := h
    have m1 := m_over
    have m2 := m_ready
    unfold tkV
    by_cases hl : t.left < 1
    · have HF : Hid (readyT t u = false) := by show _ = _; unfold readyT; rw [if_pos hl]
      go_enter Try.func23, Try.ntmps23
      go_wp2_with fail
      refine (over_any p cb t w hb).mono ?_
      rintro e1 w1 ⟨rfl, rfl⟩
      go_wp2
      go_ret
      exact ⟨ret_b HF.out.symm, Below.refl _ _⟩
    · go_enter Try.func23, Try.ntmps23
      go_wp2_with fail
      refine (over_any p cb t w hb).mono ?_
      rintro e1 w1 ⟨rfl, rfl⟩
      go_wp2_with fail
      refine (ready_any p cb t u w hb hc hok hf hu).mono ?_
      rintro e1 w1 ⟨rfl, hb1⟩
      go_wp2
      go_ret
      exact ⟨ret_b (by simp [hl]), hb1⟩

structure TsOk (ts : List Toy) : Prop where
  ok : ∀ t ∈ ts, t.ok
  few : ∀ t ∈ ts, t.few
theorem next_any (es : List (Option Nat)) (ts : List Toy) (cb : Nat) (u pick : Int) (A : Option Addr) (c n B : Nat) (w : World) (hT : Tasks w es ts cb u) (hr : Reads w B 1 A n (es.map tkV)) (hB : B ≤ w.heap.size) (hn : n ≤ 1000) (hok : TsOk ts) (hu : 0 ≤ u ∧ u ≤ 100000) (hp : In64 pick) :
    Calls Try.prog 18 #[.slice A n c, .int .i64 pick] w fun e w' => e = .returned (.int .i64 (nextL ts u pick)) ∧ Below w.heap.size w w' := by
  have hl : n = es.length := by have := hr.len; simpa using this
  have hl2 : n = ts.length := hl.trans hT.len
  have HL := Lib.hid hl
  have HL2 := Lib.hid hl2
  have HF : Hid (nextL ts u pick = nextF ts u (firstN pick n).toNat (n - 0) 0) := by show _ = _; unfold nextL; rw [← hl2]; rfl
  have hfn : 0 < n → 0 ≤ firstN pick n ∧ firstN pick n < n := by
    intro h
    unfold firstN
    rw [if_neg (by omega)]
    exact ⟨Int.emod_nonneg _ (by omega), Int.emod_lt_of_pos _ (by omega)⟩
  clear hl hl2
  go_enter Try.func18, Try.ntmps18
  go_wp2_with fail
  refine (first_any pick n w hp ⟨by omega, by omega⟩).mono ?_
  rintro e1 w1 ⟨rfl, rfl⟩
  generalize firstN pick n = f at *
  go_wp2_with fail
  go_loopw [14] (fun i wr => ∃ (k : Nat), k ≤ n ∧ i = .int .i64 k ∧ Hid (nextL ts u pick = nextF ts u f.toNat (n - k) k) ∧ Below w.heap.size w wr) (fun i _ => n - (intOf i).toNat)
  case atStart => exact ⟨0, by omega, rfl, HF, Below.refl _ _⟩
  case round =>
    clear HF
    obtain ⟨k, hk, rfl, HF, hb⟩ := hrel
    by_cases hlt : k < n
    · obtain ⟨hf0, hf1⟩ := hfn (by omega)
      obtain ⟨a, rfl⟩ := Int.eq_ofNat_of_zero_le hf0
      have HF2 : Hid (nextL ts u pick = nextF ts u a (n - k) k) := HF
      obtain ⟨j, hj⟩ : ∃ j, j = (a + k) % n := ⟨_, rfl⟩
      have hjn : j < n := by rw [hj]; exact Nat.mod_lt _ (by omega)
      have hjI : ((a : Int) + (k : Int)) % (n : Int) = (j : Int) := by rw [hj, Int.natCast_emod, Int.natCast_add]
      have hje : j < es.length := by have := HL.out; omega
      have hjt : j < ts.length := by have := HL2.out; omega
      obtain ⟨ad, v, rfl, _, hx, hc⟩ := (hr.below (hb.mono hB)).at_ hjn
      have hx2 : v = tkV es[j] := by simp [hje] at hx; exact hx.symm
      subst hx2
      have hT2 := hT.keep hb
      have htk := hT2.toy j hje hjt
      have hto := hok.ok _ (List.getElem_mem hjt)
      have htf := hok.few _ (List.getElem_mem hjt)
      have hcb := hT2.clock
      have hstep : nextF ts u a (n - k) k = if readyT ts[j] u = true then (j : Int) else nextF ts u a (n - (k + 1)) (k + 1) := by
        have e1 : n - k = (n - (k + 1)) + 1 := by omega
        have e2 : (a + k) % ts.length = j := by rw [← HL2.out]; exact hj.symm
        rw [e1, nextF, e2, List.getD_eq_getElem?_getD, List.getElem?_eq_getElem hjt]
        rfl
      generalize es[j] = e at *
      generalize ts[j] = t at *
      have hnz : ((n : Int) == 0) = false := by simp; omega
      have ha0 : (a : Int) < (n : Int) := by omega
      have hk0 : (0 : Int) ≤ (a : Int) + (k : Int) := by omega
      have hjn2 : (j : Int) < (n : Int) := by omega
      have HS := Lib.hid hstep
      have HJ := Lib.hid hj
      clear hstep hj hx HF hfn
      have HJI := Lib.hid hjI
      go_wp2_with fail
      refine (can_any e cb t u _ htk hcb hto htf hu).mono ?_
      rintro e2 w2 ⟨rfl, hb2⟩
      have hb3 := sub_trans hb hb2
      cases hrt : readyT t u with
      | true =>
        have HX : Hid ((j : Int) = nextL ts u pick) := by show _ = _; rw [HF2.out, HS.out, hrt, if_pos rfl]
        clear hrt
        go_wp2
        go_ret
        exact ⟨ret_i (by first | exact HX.out | (rw [HJI.out]; exact HX.out)), hb3⟩
      | false =>
        have HX : Hid (nextL ts u pick = nextF ts u a (n - (k + 1)) (k + 1)) := by show _ = _; rw [HF2.out, HS.out, hrt]; rfl
        clear hrt
        go_wp2
        go_roundw
        case rel => exact ⟨k + 1, by omega, by go_num, HX, hb3⟩
        case measure => simp [intOf]; omega
    · have HX : Hid (nextL ts u pick = -1) := by
        show _ = _
        rw [HF.out, show n - k = 0 by omega]
        rfl
      go_wp2
      go_ret
      exact ⟨ret_i HX.out.symm, hb⟩

theorem open_any (es : List (Option Nat)) (ts : List Toy) (cb : Nat) (u : Int) (A : Option Addr) (c n B : Nat) (w : World) (hT : Tasks w es ts cb u) (hr : Reads w B 1 A n (es.map tkV)) (hB : B ≤ w.heap.size) (hn : n ≤ 1000) :
    Calls Try.prog 15 #[.slice A n c] w fun e w' => e = .returned (.int .i64 (openL ts : Int)) ∧ w = w' := by
  have hl : n = es.length := by have := hr.len; simpa using this
  have hl2 : n = ts.length := hl.trans hT.len
  have HL := Lib.hid hl
  have HL2 := Lib.hid hl2
  clear hl hl2
  have m1 := m_over
  go_enter Try.func15, Try.ntmps15
  go_wp2
  go_loop [3, 8] (fun s i => ∃ (k : Nat), k ≤ n ∧ i = .int .i64 k ∧ s = .int .i64 (openL (ts.take k) : Int)) (fun _ i => n - (intOf i).toNat)
  case atStart => exact ⟨0, by omega, rfl, rfl⟩
  case round =>
    obtain ⟨k, hk, rfl, rfl⟩ := hrel
    by_cases hlt : k < n
    · have hke : k < es.length := by have := HL.out; omega
      have hkt : k < ts.length := by have := HL2.out; omega
      obtain ⟨ad, v, rfl, _, hx, hc⟩ := hr.at_ hlt
      have hx2 : v = tkV es[k] := by simp [hke] at hx; exact hx.symm
      subst hx2
      have htk := hT.toy k hke hkt
      have hs := openL_take hkt
      have hle : openL (ts.take k) ≤ k := Nat.le_trans (openL_le _) (List.length_take_le _ _)
      generalize openL (ts.take k) = S at *
      generalize es[k] = e at *
      generalize ts[k] = t at *
      cases e with
      | none =>
        have hl : t.left < 1 := htk
        rw [if_neg (by omega), Nat.add_zero] at hs
        have HS := Lib.hid hs
        have hc2 : w.cell? (ad.add k) = some .nilIface := hc
        clear hs hx hc
        go_wp2
        go_round
        case rel => exact ⟨k + 1, by omega, by go_num, by rw [HS.out]; rfl⟩
        case measure => simp [intOf]; omega
      | some p =>
        have hb : Blk w p 54 (toyC t cb) := htk
        have hc2 : w.cell? (ad.add k) = some (.iface 52 (.pointer (some ⟨p, 0, none⟩))) := hc
        by_cases hl : t.left < 1
        · rw [if_neg (by omega), Nat.add_zero] at hs
          have HS := Lib.hid hs
          clear hs hx hc
          go_wp2_with fail
          refine (over_any p cb t w hb).mono ?_
          rintro e1 w1 ⟨rfl, rfl⟩
          go_wp2
          go_round
          case rel => exact ⟨k + 1, by omega, by go_num, by rw [HS.out]; rfl⟩
          case measure => simp [intOf]; omega
        · rw [if_pos (by omega)] at hs
          have d1 : decide (t.left < 1) = false := by simp; omega
          have HS : Hid (((S : Int) + 1) = ((openL (ts.take (k + 1)) : Nat) : Int)) := by show _ = _; rw [hs]; rfl
          clear hs hx hc
          go_wp2_with fail
          refine (over_any p cb t w hb).mono ?_
          rintro e1 w1 ⟨rfl, rfl⟩
          go_wp2
          go_round
          case rel => exact ⟨k + 1, by omega, by go_num, by rw [← HS.out]⟩
          case measure => simp [intOf]; omega
    · have e : ts.take k = ts := List.take_of_length_le (by have := HL2.out; omega)
      rw [e]
      clear e
      go_wp2
      go_ret
      exact ⟨rfl, rfl⟩

theorem rnext_any (ts : List Toy) (u pick : Int) (A : Option Addr) (c n B : Nat) (w : World) (hr : Reads w B 3 A n (toyV ts)) (hB : B ≤ w.heap.size) (hn : n ≤ 1000) (hok : TsOk ts) (hu : 0 ≤ u ∧ u ≤ 100000) (hp : In64 pick) :
    Calls Try.prog 12 #[.slice A n c, .int .i64 u, .int .i64 pick] w fun e w' => e = .returned (.int .i64 (nextL ts u pick)) ∧ Below w.heap.size w w' := by
  have hl2 : n = ts.length := toy_len hr
  have HL2 := Lib.hid hl2
  have HF : Hid (nextL ts u pick = nextF ts u (firstN pick n).toNat (n - 0) 0) := by show _ = _; unfold nextL; rw [← hl2]; rfl
  have hfn : 0 < n → 0 ≤ firstN pick n ∧ firstN pick n < n := by
    intro h
    unfold firstN
    rw [if_neg (by omega)]
    exact ⟨Int.emod_nonneg _ (by omega), Int.emod_lt_of_pos _ (by omega)⟩
  clear hl2
  go_enter Try.func12, Try.ntmps12
  go_wp2_with fail
  refine (rfirst_any pick n w hp ⟨by omega, by omega⟩).mono ?_
  rintro e1 w1 ⟨rfl, rfl⟩
  generalize firstN pick n = f at *
  go_wp2_with fail
  go_loopw [8] (fun i wr => ∃ (k : Nat), k ≤ n ∧ i = .int .i64 k ∧ Hid (nextL ts u pick = nextF ts u f.toNat (n - k) k) ∧ Below w.heap.size w wr) (fun i _ => n - (intOf i).toNat)
  case atStart => exact ⟨0, by omega, rfl, HF, Below.refl _ _⟩
  case round =>
    clear HF
    obtain ⟨k, hk, rfl, HF, hb⟩ := hrel
    by_cases hlt : k < n
    · obtain ⟨hf0, hf1⟩ := hfn (by omega)
      obtain ⟨a, rfl⟩ := Int.eq_ofNat_of_zero_le hf0
      have HF2 : Hid (nextL ts u pick = nextF ts u a (n - k) k) := HF
      obtain ⟨j, hj⟩ : ∃ j, j = (a + k) % n := ⟨_, rfl⟩
      have hjn : j < n := by rw [hj]; exact Nat.mod_lt _ (by omega)
      have hjI : ((a : Int) + (k : Int)) % (n : Int) = (j : Int) := by rw [hj, Int.natCast_emod, Int.natCast_add]
      have hjt : j < ts.length := by have := HL2.out; omega
      obtain ⟨bl, off, rfl, _, g0, g1, g2⟩ := toy_at (hr.below (hb.mono hB)) hjt
      have hto := hok.ok _ (List.getElem_mem hjt)
      have htf := hok.few _ (List.getElem_mem hjt)
      have hstep : nextF ts u a (n - k) k = if readyT ts[j] u = true then (j : Int) else nextF ts u a (n - (k + 1)) (k + 1) := by
        have e1 : n - k = (n - (k + 1)) + 1 := by omega
        have e2 : (a + k) % ts.length = j := by rw [← HL2.out]; exact hj.symm
        rw [e1, nextF, e2, List.getD_eq_getElem?_getD, List.getElem?_eq_getElem hjt]
        rfl
      generalize ts[j] = t at *
      have hnz : ((n : Int) == 0) = false := by simp; omega
      have ha0 : (a : Int) < (n : Int) := by omega
      have hk0 : (0 : Int) ≤ (a : Int) + (k : Int) := by omega
      have hjn2 : (j : Int) < (n : Int) := by omega
      have HS := Lib.hid hstep
      have HJ := Lib.hid hj
      clear hstep hj HF hfn
      have HJI := Lib.hid hjI
      go_wp2_with fail
      refine (rready_any t u _ hto htf hu).mono ?_
      rintro e2 w2 ⟨rfl, hb2⟩
      have hb3 := sub_trans hb hb2
      cases hrt : readyT t u with
      | true =>
        have HX : Hid ((j : Int) = nextL ts u pick) := by show _ = _; rw [HF2.out, HS.out, hrt, if_pos rfl]
        clear hrt
        go_wp2
        go_ret
        exact ⟨ret_i (by first | exact HX.out | (rw [HJI.out]; exact HX.out)), hb3⟩
      | false =>
        have HX : Hid (nextL ts u pick = nextF ts u a (n - (k + 1)) (k + 1)) := by show _ = _; rw [HF2.out, HS.out, hrt]; rfl
        clear hrt
        go_wp2
        go_roundw
        case rel => exact ⟨k + 1, by omega, by go_num, HX, hb3⟩
        case measure => simp [intOf]; omega
    · have HX : Hid (nextL ts u pick = -1) := by
        show _ = _
        rw [HF.out, show n - k = 0 by omega]
        rfl
      go_wp2
      go_ret
      exact ⟨ret_i HX.out.symm, hb⟩

theorem ropen_any (ts : List Toy) (A : Option Addr) (c n B : Nat) (w : World) (hr : Reads w B 3 A n (toyV ts)) (hn : n ≤ 1000) :
    Calls Try.prog 13 #[.slice A n c] w fun e w' => e = .returned (.int .i64 (openL ts : Int)) ∧ w = w' := by
  have hl2 : n = ts.length := toy_len hr
  have HL2 := Lib.hid hl2
  clear hl2
  go_enter Try.func13, Try.ntmps13
  go_wp2
  go_loop [3, 4] (fun s i => ∃ (k : Nat), k ≤ n ∧ i = .int .i64 k ∧ s = .int .i64 (openL (ts.take k) : Int)) (fun _ i => n - (intOf i).toNat)
  case atStart => exact ⟨0, by omega, rfl, rfl⟩
  case round =>
    obtain ⟨k, hk, rfl, rfl⟩ := hrel
    by_cases hlt : k < n
    · have hkt : k < ts.length := by have := HL2.out; omega
      obtain ⟨bl, off, rfl, _, g0, g1, g2⟩ := toy_at hr hkt
      have hs := openL_take hkt
      have hle : openL (ts.take k) ≤ k := Nat.le_trans (openL_le _) (List.length_take_le _ _)
      generalize openL (ts.take k) = S at *
      generalize ts[k] = t at *
      by_cases hl : 0 < t.left
      · rw [if_pos (by omega)] at hs
        have HS : Hid (((S : Int) + 1) = ((openL (ts.take (k + 1)) : Nat) : Int)) := by show _ = _; rw [hs]; rfl
        clear hs
        go_wp2
        go_round
        case rel => exact ⟨k + 1, by omega, by go_num, by rw [← HS.out]⟩
        case measure => simp [intOf]; omega
      · rw [if_neg (by omega), Nat.add_zero] at hs
        have HS := Lib.hid hs
        clear hs
        go_wp2
        go_round
        case rel => exact ⟨k + 1, by omega, by go_num, by rw [HS.out]; rfl⟩
        case measure => simp [intOf]; omega
    · have e : ts.take k = ts := List.take_of_length_le (by have := HL2.out; omega)
      rw [e]
      clear e
      go_wp2
      go_ret
      exact ⟨rfl, rfl⟩
end Go.Proofs.Ytenjhklkljeijaa
