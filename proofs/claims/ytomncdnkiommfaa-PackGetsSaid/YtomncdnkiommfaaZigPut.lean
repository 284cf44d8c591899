/-
  The walks of zig.Put and of the reference's Put and All. Conditions: at most 100000 numbers.
-/
import Derived.Test.YtomncdnkiommfaaZigGet
namespace Go.Proofs.Ytomncdnkiommfaa
open Go.RowKit Go.Fw
set_option maxHeartbeats 400000
set_option maxRecDepth 4000
set_option linter.unusedVariables false
set_option linter.unusedSimpArgs false

theorem elem8 : Elem Try.prog 22 5 (.int .u8 0) 1 := ⟨Try.underlying22, by kernel_rfl, rfl⟩
theorem elem64 : Elem Try.prog 31 2 (.int .i64 0) 8 := ⟨Try.underlying31, by kernel_rfl, rfl⟩

theorem rput_any (n : Int) (w : World) (h0 : -9223372036854775808 ≤ n) (h1 : n ≤ 9223372036854775807) :
    Calls Try.prog 29 #[.int .i64 n] w fun e w' => ∃ v, e = .returned v ∧ Mine w w' 5 v (bys (putN n)) := by
  have hz := zig_bd n h0 h1
  have HP : Hid (putN n = putF 9 (zig n).toNat) := Lib.hid rfl
  obtain ⟨z, hz1⟩ := Int.eq_ofNat_of_zero_le hz.1
  have HZ := Lib.hid hz1
  have hz3 : Hid (z < 18446744073709551616) := by show _ < _; omega
  clear hz1 hz
  go_enter Try.func29, Try.ntmps29
  go_wp2_with (go_at_call 17; refine (rzig_any _ _ h0 h1).mono ?_; rintro e w' ⟨rfl, rfl⟩; rw [HZ.out])
  go_loopw [3, 4] (fun s v wr => ∃ (m f : Nat) (xs : List UInt8), s = .int .u64 m ∧ Mine w wr 5 v (bys xs) ∧ Hid (putN n = xs ++ putF f m) ∧ Hid (m < 128 ^ (f + 1)) ∧ xs.length + f ≤ 9 ∧ Hid (m < 18446744073709551616)) (fun s _ _ => (intOf s).toNat)
  case atStart => exact ⟨z, 9, [], rfl, Mine.nil_ w 5, Lib.hid (by rw [HP.out, HZ.out]; rfl), Lib.hid (by have := hz3.out; omega), by simp, hz3⟩
  case round =>
    obtain ⟨m, f, xs, rfl, hm, HG, HF, hxs, HM⟩ := hrel
    by_cases hlt : m < 128
    · go_wp2_with (at_builtin; refine wpList_append_one elem8 rfl (.tmp 18) (.tmp 21) rfl rfl hm rfl rfl (by rw [bys_length]; omega) (by rw [bys_length]; unfold maxLen; omega) ?_; intro v' w' hm' hg')
      go_ret
      refine ⟨_, rfl, ?_⟩
      have e : Value.int .u8 (IntKind.u8.wrap (m : Int)) = .int .u8 (UInt8.ofNat m).toNat := by rw [u8_id m (by omega), byte_of m (by omega)]
      rw [HG.out, putF_lt f m hlt, ← bys_snoc, ← e]
      first | exact hm' | (rw [e, byte_of m (by omega)]; exact hm')
    · obtain _ | f := f
      · have := HF.out
        omega
      have hm1 : (intOf (.int .u64 (m : Int))).toNat = m := by simp [intOf]
      go_wp2_with (at_builtin; refine wpList_append_one elem8 rfl (.tmp 9) (.tmp 14) rfl rfl hm rfl rfl (by rw [bys_length]; omega) (by rw [bys_length]; unfold maxLen; omega) ?_; intro v' w' hm' hg')
      rw [u64_div m HM.out]
      have e : Value.int .u8 ((m : Int) % 128 + 128) = .int .u8 (UInt8.ofNat (m % 128 + 128)).toNat := by rw [byte_of _ (by omega)]; rfl
      rw [e, bys_snoc] at hm'
      go_roundw
      case rel => exact ⟨m / 128, f, xs ++ [UInt8.ofNat (m % 128 + 128)], rfl, hm', Lib.hid (by rw [HG.out, putF_ge f m (by omega)]; simp), Lib.hid (lt_pow m f HF.out), by simp; omega, Lib.hid (by have := HM.out; omega)⟩
      case measure => simp [intOf]; omega

theorem put_any (l : List Int) (hl : l.length ≤ 100000) (hs : Small l) (A : Option Addr) (c : Nat) (w : World) (hr : Reads w w.heap.size 1 A l.length (i64s l)) :
    Calls Try.prog 12 #[.slice A l.length c] w fun e w' => ∃ v, e = .returned v ∧ Mine w w' 5 v (bys (putL l)) := by
  go_enter Try.func12, Try.ntmps12
  go_wp2
  go_loopw [3, 9] (fun v i wr => ∃ (k : Nat), k ≤ l.length ∧ i = .int .i64 k ∧ Mine w wr 5 v (bys (putL (l.take k)))) (fun _ i _ => l.length - (intOf i).toNat)
  case atStart => exact ⟨0, by omega, rfl, by rw [List.take_zero]; exact Mine.nil_ w 5⟩
  case round =>
    obtain ⟨k, hk, rfl, hm⟩ := hrel
    by_cases hlt : k < l.length
    · obtain ⟨wo, rfl⟩ : ∃ wo : World, wo = wr := ⟨_, rfl⟩
      obtain ⟨ad, u, rfl, _, hx, hc⟩ := (hr.below hm.below).at_ hlt
      obtain rfl := i64s_get hx hlt
      have hsn := putL_snoc l k hlt
      have hb := hs k hlt
      have hln := putL_length (l.take k)
      have hlk : (l.take k).length ≤ k := List.length_take_le _ _
      generalize l[k] = n at *
      obtain ⟨h0, h1⟩ := hb
      have hz := zig_bd n h0 h1
      obtain ⟨z, hz1⟩ := Int.eq_ofNat_of_zero_le hz.1
      have hpn : putN n = putF 9 z := by unfold putN; rw [hz1]; rfl
      have HZ := Lib.hid hz1
      have hz3 : Hid (z < 18446744073709551616) := by show _ < _; omega
      generalize putL (l.take k) = out at *
      have HS : Hid (putL (l.take (k + 1)) = out ++ putF 9 z) := by rw [hsn, hpn]; exact Lib.hid rfl
      clear hz1 hz hsn hpn hx
      go_wp2_with (go_at_call 16; refine (zig_any _ _ h0 h1).mono ?_; rintro e w' ⟨rfl, rfl⟩; rw [HZ.out])
      go_loopw [3, 6] (fun v s wr => ∃ (m f : Nat) (xs : List UInt8), s = .int .u64 m ∧ Mine w wr 5 v (bys (out ++ xs)) ∧ Hid (putF 9 z = xs ++ putF f m) ∧ Hid (m < 128 ^ (f + 1)) ∧ xs.length + f ≤ 9 ∧ Hid (m < 18446744073709551616)) (fun _ s _ => (intOf s).toNat)
      case atStart => exact ⟨z, 9, [], rfl, by simpa using hm, Lib.hid rfl, Lib.hid (by have := hz3.out; omega), by simp, hz3⟩
      case round =>
        clear hc hr h0 h1
        obtain ⟨m, f, xs, rfl, hm, HG, HF, hxs, HM⟩ := hrel
        have hlen : (out ++ xs).length ≤ 1000100 := by simp; omega
        by_cases hlt2 : m ≤ 127
        · go_wp2_with (at_builtin; refine wpList_append_one elem8 rfl (.tmp 25) (.tmp 28) rfl rfl hm rfl rfl (by rw [bys_length]; omega) (by rw [bys_length]; unfold maxLen; omega) ?_; intro v' w' hm' hg')
          have e : Value.int .u8 (IntKind.u8.wrap (m : Int)) = .int .u8 (UInt8.ofNat m).toNat := by rw [u8_id m (by omega), byte_of m (by omega)]
          have hg2 : putL (l.take (k + 1)) = (out ++ xs) ++ [UInt8.ofNat m] := by rw [HS.out, HG.out, putF_lt f m (by omega)]; simp
          go_roundw
          case rel => exact ⟨k + 1, by omega, by go_num, by rw [hg2, ← bys_snoc, ← e]; first | exact hm' | (rw [e, byte_of m (by omega)]; exact hm')⟩
          case measure => simp [intOf]; omega
        · obtain _ | f := f
          · have := HF.out
            omega
          have HO := Lib.hid (or128 m)
          go_wp2_with (at_builtin; refine wpList_append_one elem8 rfl (.tmp 17) (.tmp 21) rfl rfl hm rfl rfl (by rw [bys_length]; omega) (by rw [bys_length]; unfold maxLen; omega) ?_; intro v' w' hm' hg')
          have e : Value.int .u8 (bits .or .u8 ((m : Int) % 256) 128) = .int .u8 (UInt8.ofNat (m % 128 + 128)).toNat := by rw [← IntKind.wrap_u8', HO.out, byte_of _ (by omega)]
          rw [e, bys_snoc] at hm'
          go_roundw
          case rel => exact ⟨m / 128, f, xs ++ [UInt8.ofNat (m % 128 + 128)], rfl, by rw [← List.append_assoc]; exact hm', Lib.hid (by rw [HG.out, putF_ge f m (by omega)]; simp), Lib.hid (lt_pow m f HF.out), by simp; omega, Lib.hid (by have := HM.out; omega)⟩
          case measure => simp [intOf]; omega
    · go_wp2
      go_ret
      refine ⟨_, rfl, ?_⟩
      rw [List.take_of_length_le (by omega)] at hm
      exact hm

theorem rall_any (l : List Int) (hl : l.length ≤ 100000) (hs : Small l) (A : Option Addr) (c : Nat) (w : World) (hr : Reads w w.heap.size 1 A l.length (i64s l)) :
    Calls Try.prog 14 #[.slice A l.length c] w fun e w' => ∃ v, e = .returned v ∧ Mine w w' 5 v (bys (putL l)) := by
  go_enter Try.func14, Try.ntmps14
  go_wp2
  go_loopw [3, 4] (fun v i wr => ∃ (k : Nat), k ≤ l.length ∧ i = .int .i64 k ∧ Mine w wr 5 v (bys (putL (l.take k)))) (fun _ i _ => l.length - (intOf i).toNat)
  case atStart => exact ⟨0, by omega, rfl, by rw [List.take_zero]; exact Mine.nil_ w 5⟩
  case round =>
    obtain ⟨k, hk, rfl, hm⟩ := hrel
    by_cases hlt : k < l.length
    · obtain ⟨ad, u, rfl, _, hx, hc⟩ := (hr.below hm.below).at_ hlt
      obtain rfl := i64s_get hx hlt
      have hsn := putL_snoc l k hlt
      have hb := hs k hlt
      have hln := putL_length (l.take k)
      have hlk : (l.take k).length ≤ k := List.length_take_le _ _
      generalize l[k] = n at *
      obtain ⟨h0, h1⟩ := hb
      have hpn := putN_length n
      have HS := Lib.hid hsn
      clear hx hsn
      go_wp2_with (first
        | (go_at_call 29; refine (rput_any _ _ h0 h1).mono ?_; rintro e w1 ⟨v1, rfl, hp⟩; have hm1 := hm.later hp.below; obtain ⟨A1, c1, rfl, _, _, hr1⟩ := hp.form)
        | (at_builtin; refine wpList_append_all elem8 rfl (.tmp 11) (.tmp 16) rfl rfl hm1 rfl hr1 (bys_one _) (by simp only [bys_length]; omega) (by simp only [bys_length]; unfold maxLen; omega) ?_; intro v' w' hm' hg'))
      rw [bys_app, ← HS.out] at hm'
      go_roundw
      case rel => exact ⟨k + 1, by omega, by go_num, hm'⟩
      case measure => simp [intOf]; omega
    · go_wp2
      go_ret
      refine ⟨_, rfl, ?_⟩
      rw [List.take_of_length_le (by omega)] at hm
      exact hm
end Go.Proofs.Ytomncdnkiommfaa
