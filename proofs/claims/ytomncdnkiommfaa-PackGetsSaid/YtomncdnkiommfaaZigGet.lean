/-
  The walks of zig.Zag, zig.Zig, zig.Get, of the reference's own three, and of the law's code. Conditions: lengths within Go's own.
-/
import Derived.Test.YtomncdnkiommfaaZigPlain
namespace Go.Proofs.Ytomncdnkiommfaa
open Go.RowKit Go.Fw
set_option maxHeartbeats 400000
set_option maxRecDepth 4000
set_option linter.unusedVariables false
set_option linter.unusedSimpArgs false

theorem zag_any (n : Int) (w : World) (h0 : 0 ≤ n) (h1 : n < 18446744073709551616) :
    Calls Try.prog 18 #[.int .u64 n] w fun e w' => e = .returned (.int .i64 (zag n)) ∧ w = w' := by
  go_enter Try.func18, Try.ntmps18
  go_wp2
  go_ret
  exact ⟨ret_i (zag_bits n h0 h1), rfl⟩
theorem zig_any (n : Int) (w : World) (h0 : -9223372036854775808 ≤ n) (h1 : n ≤ 9223372036854775807) :
    Calls Try.prog 16 #[.int .i64 n] w fun e w' => e = .returned (.int .u64 (zig n)) ∧ w = w' := by
  go_enter Try.func16, Try.ntmps16
  go_wp2
  go_ret
  exact ⟨ret_i (zig_bits n h0 h1), rfl⟩
theorem rzag_any (n : Int) (w : World) (h0 : 0 ≤ n) (h1 : n < 18446744073709551616) :
    Calls Try.prog 20 #[.int .u64 n] w fun e w' => e = .returned (.int .i64 (zag n)) ∧ w = w' := by
  by_cases h : n % 2 = 0
  · have hb : (n % 2 == 0) = true := by simpa using h
    have H := Lib.hid h; clear h
    go_enter Try.func20, Try.ntmps20
    go_wp2
    go_ret
    exact ⟨ret_i (by unfold zag; rw [if_pos H.out]), rfl⟩
  · have hb : (n % 2 == 0) = false := by simpa using h
    have H := Lib.hid h; clear h
    go_enter Try.func20, Try.ntmps20
    go_wp2
    go_ret
    exact ⟨ret_i (by unfold zag; rw [if_neg H.out]), rfl⟩
theorem rzig_any (n : Int) (w : World) (h0 : -9223372036854775808 ≤ n) (h1 : n ≤ 9223372036854775807) :
    Calls Try.prog 17 #[.int .i64 n] w fun e w' => e = .returned (.int .u64 (zig n)) ∧ w = w' := by
  by_cases h : 0 ≤ n
  · go_enter Try.func17, Try.ntmps17
    go_wp2
    go_ret
    exact ⟨ret_i (by unfold zig; rw [if_pos h]), rfl⟩
  · go_enter Try.func17, Try.ntmps17
    go_wp2
    go_ret
    exact ⟨ret_i (by unfold zig; rw [if_neg (by omega)]), rfl⟩
theorem code_any (n : Int) (w : World) (h : n = 0 ∨ n = 1 ∨ n = 2) :
    Calls Try.prog 11 #[.int .i64 n] w fun e w' => e = .returned (.int .i64 (perr n)) ∧ w = w' := by
  rcases h with rfl | rfl | rfl
  all_goals
    go_enter Try.func11, Try.ntmps11
    go_wp2
    go_ret
    exact ⟨rfl, rfl⟩

theorem get_any (l : List UInt8) (A : Option Addr) (c B : Nat) (w : World) (hr : Reads w B 1 A l.length (bys l)) (hl : l.length ≤ maxLen) :
    Calls Try.prog 9 #[.slice A l.length c] w fun e w' => e = .returned (.tuple #[.int .i64 (getL l 0 0).1, .int .i64 (getL l 0 0).2.1, .int .i64 (perr (getL l 0 0).2.2)]) ∧ w = w' := by
  unfold maxLen at hl
  go_enter Try.func9, Try.ntmps9
  go_wp2
  go_loop [5, 10] (fun s i => ∃ k n : Nat, k ≤ l.length ∧ i = .int .i64 k ∧ s = .int .u64 n ∧ Hid (getL l 0 0 = getL (l.drop k) k n) ∧ Hid (n < 2 ^ (7 * k)) ∧ k ≤ 9) (fun _ i => l.length - (intOf i).toNat)
  case atStart => exact ⟨0, 0, Nat.zero_le _, rfl, rfl, Lib.hid rfl, Lib.hid (by decide), by omega⟩
  case round =>
    obtain ⟨k, n, hk, rfl, rfl, HG, HN, hk9⟩ := hrel
    by_cases hlt : k < l.length
    · obtain ⟨ad, u, rfl, _, hx, hc⟩ := hr.at_ hlt
      obtain ⟨m, hm, hm2, rfl⟩ := bys_get hx hlt
      have HM := Lib.hid hm
      clear hx hm
      by_cases hbad : k = 9 ∧ 1 < m ∨ 0 < k ∧ m = 0
      · have HF := Lib.hid (getL_bad n hlt HM.out hbad)
        have h9 : ((k : Int) == 9) = true ∨ ((k : Int) == 9) = false := by cases ((k : Int) == 9) <;> simp
        have h9e : ((k : Int) == 9) = true ↔ k = 9 := by simp; omega
        rcases hbad with ⟨hk, hb⟩ | ⟨hb, hm⟩
        · have h9 := h9e.2 hk
          clear hk h9e
          go_wp2
          go_ret3
          exact ⟨by rw [HG.out, HF.out]; rfl, rfl⟩
        · have h0 : ((m : Int) == 0) = true := by simp; omega
          have h1 : (m : Int) ≤ 1 := by omega
          clear hm h9e
          rcases h9 with h9 | h9
          all_goals
            go_wp2
            go_ret3
            exact ⟨by rw [HG.out, HF.out]; rfl, rfl⟩
      · have h9m : k = 9 → m ≤ 1 := by omega
        have hor := or_step k n m hk9 h9m hm2 HN.out _ rfl
        obtain ⟨ho, hb, hb2⟩ := hor
        have HO := Lib.hid ho
        have HB := Lib.hid hb
        have HB2 := Lib.hid hb2
        clear ho hb hb2
        by_cases h128 : m < 128
        · have HF := Lib.hid (getL_end n hlt HM.out hbad h128)
          have h9 : ((k : Int) == 9) = true ∧ (m : Int) ≤ 1 ∨ ((k : Int) == 9) = false := by
            by_cases h : k = 9
            · exact .inl ⟨by simp; omega, by omega⟩
            · exact .inr (by simp; omega)
          have h0 : ((m : Int) == 0) = true ∧ ¬ (0 : Int) < k ∨ ((m : Int) == 0) = false := by
            by_cases h : m = 0
            · exact .inl ⟨by simp; omega, by omega⟩
            · exact .inr (by simp; omega)
          have hg : m < 128 := h128
          clear h9m hbad h128
          rcases h9 with ⟨h9, h9'⟩ | h9 <;> rcases h0 with ⟨h0, h0'⟩ | h0
          all_goals
            go_wp2_with ((go_at_call 18); rw [HO.out]; refine (zag_any _ _ (by omega) (by have := HB.out; omega)).mono ?_; rintro e w' ⟨rfl, rfl⟩)
            go_ret3
            exact ⟨by rw [HG.out, HF.out]; exact ret_3 (by push_cast; rfl) (by push_cast; rfl) rfl, rfl⟩
        · have HF := Lib.hid (getL_on n hlt HM.out hbad (by omega))
          have h9 : (((k : Int) == 9) = false) := by simp; omega
          have h0 : (((m : Int) == 0) = false) := by simp; omega
          have hg : ¬ m < 128 := h128
          clear h9m hbad h128
          go_wp2
          go_round
          case rel => exact ⟨k + 1, n + (m % 128) * 2 ^ (7 * k), by omega, by go_num, by rw [HO.out], Lib.hid (by rw [HG.out, HF.out]), HB2, by simp at h9; omega⟩
          case measure => simp [intOf]; omega
    · have HF : Hid (getL (l.drop k) k n = (0, 0, 2)) := by
        show _ = _
        rw [List.drop_eq_nil_of_le (by omega)]
        rfl
      go_wp2
      go_ret3
      exact ⟨by rw [HG.out, HF.out]; rfl, rfl⟩

theorem rget_any (l : List UInt8) (A : Option Addr) (c B : Nat) (w : World) (hr : Reads w B 1 A l.length (bys l)) (hl : l.length ≤ maxLen) :
    Calls Try.prog 10 #[.slice A l.length c] w fun e w' => e = .returned (.tuple #[.int .i64 (getL l 0 0).1, .int .i64 (getL l 0 0).2.1, .int .i64 (getL l 0 0).2.2]) ∧ w = w' := by
  unfold maxLen at hl
  go_enter Try.func10, Try.ntmps10
  go_wp2
  go_loop [5, 6, 7] (fun s o i => ∃ k n p : Nat, k ≤ l.length ∧ i = .int .i64 k ∧ s = .int .u64 n ∧ o = .int .u64 p ∧ Hid (getL l 0 0 = getL (l.drop k) k n) ∧ Hid (p = 2 ^ (7 * k)) ∧ Hid (n < p) ∧ k ≤ 9) (fun _ _ i => l.length - (intOf i).toNat)
  case atStart => exact ⟨0, 0, 1, Nat.zero_le _, rfl, rfl, rfl, Lib.hid rfl, Lib.hid (by decide), Lib.hid (by decide), by omega⟩
  case round =>
    obtain ⟨k, n, p, hk, rfl, rfl, rfl, HG, HP, HN, hk9⟩ := hrel
    by_cases hlt : k < l.length
    · obtain ⟨ad, u, rfl, _, hx, hc⟩ := hr.at_ hlt
      obtain ⟨m, hm, hm2, rfl⟩ := bys_get hx hlt
      have HM := Lib.hid hm
      clear hx hm
      have h9 : ((k : Int) == 9) = true ∨ ((k : Int) == 9) = false := by cases ((k : Int) == 9) <;> simp
      have h9e : ((k : Int) == 9) = true ↔ k = 9 := by simp; omega
      by_cases hbad : k = 9 ∧ 1 < m ∨ 0 < k ∧ m = 0
      · have HF := Lib.hid (getL_bad n hlt HM.out hbad)
        rcases hbad with ⟨hk, hb⟩ | ⟨hb, hm⟩
        · have h9 := h9e.2 hk
          have hk' : 0 < k := by omega
          clear hk h9e
          go_wp2
          go_ret3
          exact ⟨by rw [HG.out, HF.out]; rfl, rfl⟩
        · have h0 : ((m : Int) == 0) = true := by simp; omega
          have h1 : (m : Int) ≤ 1 := by omega
          clear hm h9e
          rcases h9 with h9 | h9
          all_goals
            go_wp2
            go_ret3
            exact ⟨by rw [HG.out, HF.out]; rfl, rfl⟩
      · obtain ⟨ho, hb, hb2⟩ := sum_step k n m p hk9 (by omega) hm2 HN.out HP.out
        have HO := Lib.hid ho
        have HB := Lib.hid hb
        have HB2 := Lib.hid hb2
        clear ho hb hb2
        have h9 : ((k : Int) == 9) = true ∧ (m : Int) ≤ 1 ∧ m < 128 ∨ ((k : Int) == 9) = false ∧ k ≤ 8 := by
          by_cases h : k = 9
          · exact .inl ⟨by simp; omega, by omega, by omega⟩
          · exact .inr ⟨by simp; omega, by omega⟩
        have h0 : (0 : Int) < k ∧ ((m : Int) == 0) = false ∨ ¬ (0 : Int) < k := by
          by_cases h : 0 < k
          · exact .inl ⟨by omega, by simp; omega⟩
          · exact .inr (by omega)
        by_cases h128 : m < 128
        · have HF := Lib.hid (getL_end n hlt HM.out hbad h128)
          clear hbad h9e
          rcases h9 with ⟨h9, h9', _⟩ | ⟨h9, h9'⟩ <;> rcases h0 with ⟨h0, h0'⟩ | h0
          all_goals
            go_wp2_with ((go_at_call 20); rw [HO.out]; refine (rzag_any _ _ (by omega) (by have := HB.out; omega)).mono ?_; rintro e w' ⟨rfl, rfl⟩)
            go_ret3
            exact ⟨by rw [HG.out, HF.out, ← HP.out]; exact ret_3 (by push_cast; rfl) (by push_cast; rfl) rfl, rfl⟩
        · have HF := Lib.hid (getL_on n hlt HM.out hbad (by omega))
          clear hbad h9e
          have hq : p ≤ 72057594037927936 := by
            have hk8 : k ≤ 8 := by omega
            rw [HP.out]
            have : 2 ^ (7 * k) ≤ 2 ^ 56 := Nat.pow_le_pow_right (by omega) (by omega)
            simpa using this
          rcases h9 with ⟨_, _, h9⟩ | ⟨h9, h9'⟩
          · omega
          · rcases h0 with ⟨h0, h0'⟩ | h0
            all_goals
              go_wp2
              go_round
              case rel => exact ⟨k + 1, n + m % 128 * p, 128 * p, by omega, by go_num, by rw [HO.out], by go_num, Lib.hid (by rw [HG.out, HF.out, HP.out]), Lib.hid (by rw [p7s, HP.out]), HB2, by omega⟩
              case measure => simp [intOf]; omega
    · have HF : Hid (getL (l.drop k) k n = (0, 0, 2)) := by
        show _ = _
        rw [List.drop_eq_nil_of_le (by omega)]
        rfl
      go_wp2
      go_ret3
      exact ⟨by rw [HG.out, HF.out]; rfl, rfl⟩

theorem get_at (l : List UInt8) (A : Option Addr) (n c B : Nat) (w : World) (hr : Reads w B 1 A n (bys l)) (hl : n ≤ maxLen) :
    Calls Try.prog 9 #[.slice A n c] w fun e w' => e = .returned (.tuple #[.int .i64 (getL l 0 0).1, .int .i64 (getL l 0 0).2.1, .int .i64 (perr (getL l 0 0).2.2)]) ∧ w = w' := by
  obtain rfl : n = l.length := by have := hr.len; rwa [bys_length] at this
  exact get_any l A c B w hr hl
theorem rget_at (l : List UInt8) (A : Option Addr) (n c B : Nat) (w : World) (hr : Reads w B 1 A n (bys l)) (hl : n ≤ maxLen) :
    Calls Try.prog 10 #[.slice A n c] w fun e w' => e = .returned (.tuple #[.int .i64 (getL l 0 0).1, .int .i64 (getL l 0 0).2.1, .int .i64 (getL l 0 0).2.2]) ∧ w = w' := by
  obtain rfl : n = l.length := by have := hr.len; rwa [bys_length] at this
  exact rget_any l A c B w hr hl
end Go.Proofs.Ytomncdnkiommfaa
