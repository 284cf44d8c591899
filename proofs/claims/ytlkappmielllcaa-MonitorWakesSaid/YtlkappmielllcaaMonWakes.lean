/-
  MonitorWakes walked. Condition: none.
-/
import Derived.Test.YtlkappmielllcaaMonNone
namespace Go.Fw
open Go.RowKit Go.WideShapes Go.ChangeShapes
set_option linter.unusedVariables false
theorem arg_u8m {H : Type} {enc : TypeId × Value → H} {P : Program} {W : World} {base : Nat} {t : TypeId} {v : Value} {d : DataW H} {p : List MemPlace} (ht : P.underlying t = some (.int .u8))
    (hv : Value.okWide P W .any base t v) (h : DataW.Trod enc P W 0 (fun _ => true) true t v d p) : ∃ n : Int, v = .int .u8 n ∧ 0 ≤ n ∧ n < 256 := by
  obtain ⟨x, rfl, _, _, wx⟩ := open_int ht hv h
  have : 0 ≤ x ∧ x ≤ 255 := by simpa [Lit.wf, IntKind.min, IntKind.max, IntKind.signed, IntKind.bits] using wx
  exact ⟨x, rfl, this.1, by omega⟩
instance : DecidableEq Lk := fun a b => decidable_of_iff (a.r = b.r ∧ a.w = b.w ∧ a.line = b.line) ⟨fun ⟨h1, h2, h3⟩ => by cases a; cases b; simp_all, fun h => by subst h; exact ⟨rfl, rfl, rfl⟩⟩
def monS (many k : Nat) : Lk := if k < many then ⟨0, 2 ^ k, (List.range' (k + 1) (many - k - 1)).map fun (i : Nat) => ((i : Int), true)⟩ else ⟨0, 0, []⟩
def asl (k : Nat) : List Int := (List.range k).map fun (i : Nat) => (i : Int)
theorem asl_length (k : Nat) : (asl k).length = k := by simp [asl]
theorem asl_snoc (k : Nat) : asl k ++ [(k : Int)] = asl (k + 1) := by simp [asl, List.range_succ]
theorem asl_get {k j : Nat} (h : j < (asl k).length) : (asl k)[j] = (j : Int) := by simp [asl]
theorem asl_small {k : Nat} (hk : k ≤ 1000) : Small (asl k) := fun j h => by rw [asl_get h]; rw [asl_length] at h; omega
theorem mw_ask : ∀ t : Nat, t < 32 → askL ⟨0, 0, []⟩ (t : Int) true = (⟨0, 2 ^ t, []⟩, true, 0) := by decide +kernel
theorem mw_held : ∀ t : Nat, t < 32 → heldN ⟨0, 2 ^ t, []⟩ (t : Int) = 2 := by decide +kernel
theorem mw_drop : ∀ t : Nat, t < 31 → dropL ⟨0, 2 ^ t, []⟩ (t : Int) = (⟨0, 0, []⟩, []) := by decide +kernel
theorem mw_wake : ∀ m : Nat, m < 31 → wakeL ⟨0, 0, []⟩ (asl m) = monS m 0 := by decide +kernel
theorem mw_wake31 : ∀ m : Nat, m < 31 → (dropL (wakeL ⟨0, 2 ^ 31, []⟩ (asl m)) 31).1 = monS m 0 ∧ heldN (wakeL ⟨0, 2 ^ 31, []⟩ (asl m)) 31 ≠ 0 := by decide +kernel
theorem mw_step : ∀ m : Nat, m < 31 → ∀ k : Nat, k < m → heldN (monS m k) (k : Int) = 2 ∧ (dropL (monS m k) (k : Int)).1 = monS m (k + 1) := by decide +kernel
theorem mw_pow : ∀ t : Nat, t < 32 → 2 ^ t < 4294967296 := by decide +kernel
theorem mw_len : ∀ m : Nat, m < 31 → ∀ k : Nat, k < m + 1 → (monS m k).line.length ≤ 100 ∧ (monS m k).w < 4294967296 ∧ (monS m k).r < 4294967296 ∧ (monS m k).line.all (fun x => decide (0 ≤ x.1) && decide (x.1 < 32)) = true := by decide +kernel
theorem mw_ok {m k : Nat} (hm : m < 31) (hk : k ≤ m) : (monS m k).ok := by
  obtain ⟨_, h1, h2, h3⟩ := mw_len m hm k (by omega)
  refine ⟨h2, h1, fun x hx => ?_⟩
  have := List.all_eq_true.1 h3 x hx
  simpa using this
theorem ok_pow {t : Nat} (h : t < 32) : Lk.ok ⟨0, 2 ^ t, []⟩ := ⟨by simp, mw_pow t h, by simp⟩
theorem monS_end (m : Nat) : monS m m = ⟨0, 0, []⟩ := if_neg (Nat.lt_irrefl m)
end Go.Fw
namespace Go.Proofs.Ytlkappmielllcaa
open Go.RowKit Go.Fw
set_option maxHeartbeats 1000000
set_option maxRecDepth 4000
set_option linter.unusedVariables false
set_option linter.unusedSimpArgs false
/-- the monitor that was laid first since world w0 -/
def MonIn (w0 w : World) (l : Lk) (zs : List Int) : Prop := ∃ sl al, MonAt w w0.heap.size w0.heap.size sl al l zs ∧ Below w0.heap.size w0 w
theorem monitorWakes_walk (n o : Int) (w : World) (hn : 0 ≤ n ∧ n < 256) (ho : 0 ≤ o ∧ o < 256) :
    Calls Try.prog 6 #[.int .u8 n, .int .u8 o] w fun e w' => e = .returned (.bool true) ∧ Below w.heap.size w w' := by
  obtain ⟨m, hm⟩ : ∃ m : Nat, n % 31 = (m : Int) := ⟨(n % 31).toNat, by omega⟩
  have hm31 : m < 31 := by omega
  obtain ⟨hn0, hn1⟩ := hn
  obtain ⟨ho0, ho1⟩ := ho
  by_cases hpar : o % 2 = 0
  · go_enter Try.func6, Try.ntmps6
    go_wp2_with fail
    refine (mawake_any w).mono ?_
    rintro e w1 ⟨rfl, hb⟩
    have HB := Lib.hid hb
    clear hb
    go_wp2
    rw [hm]
    go_loopw [7] (fun i wr => ∃ (k : Nat), k ≤ m ∧ i = .int .i64 k ∧ MonIn w1 wr ⟨0, 0, []⟩ (asl k)) (fun i _ => m - (intOf i).toNat)
    case atStart => exact ⟨0, Nat.zero_le _, rfl, _, _, mon_new w1, sub_alloc (Below.refl _ _) _⟩
    case round =>
      obtain ⟨k, hk, rfl, sl, al, hM, hK⟩ := hrel
      by_cases hlt : k < m
      · have hask := ask_any w1.heap.size w1.heap.size _ _ _ _ (k : Int) true wr hM.1 emptyLk_ok (by decide) (by decide) hK.size (by omega)
        rw [mw_ask k (by omega)] at hask
        have HASK := Lib.hid hask
        have HM := Lib.hid hM
        have HK := Lib.hid hK
        clear hask hM hK
        go_wp2_with fail
        refine HASK.out.mono ?_
        rintro e w2 ⟨rfl, sl2, h2, hK2⟩
        have m2 := HM.out.asked h2 hK2
        have b2 := HK.out.trans ((HM.out.1.askKeep (Nat.le_refl _) hK2).below HK.out.size fun _ h => h)
        have hsl := sleep_any _ _ _ _ _ _ (k : Int) _ m2 (ok_pow (by omega)) (by simp) (by rw [asl_length]; omega) b2.size (Nat.le_refl _) (by omega) (mw_held k (by omega))
        rw [mw_drop k (by omega), asl_snoc] at hsl
        have HSL := Lib.hid hsl
        have HB2 := Lib.hid b2
        clear hsl b2 m2 h2 hK2 HM HK HASK
        go_wp2_with fail
        refine HSL.out.mono ?_
        rintro e w3 ⟨v, rfl, sl3, al3, m3, hK3⟩
        have b3 := HB2.out.trans (hK3.below HB2.out.size fun _ h => h)
        have M3 := Lib.hid m3
        have B3 := Lib.hid b3
        clear m3 hK3 b3
        go_wp2
        go_roundw
        case rel => exact ⟨k + 1, by omega, by go_num, sl3, al3, M3.out, B3.out⟩
        case measure => simp [intOf]; omega
      · have hkm : k = m := by omega
        subst hkm
        have HM := Lib.hid hM
        have HK := Lib.hid hK
        clear hM hK
        have hask := ask_any w1.heap.size w1.heap.size _ _ _ _ 31 true wr HM.out.1 emptyLk_ok (by decide) (by decide) HK.out.size (by omega)
        rw [show askL ⟨0, 0, []⟩ 31 true = (⟨0, 2 ^ 31, []⟩, true, 0) from mw_ask 31 (by omega)] at hask
        have HASK := Lib.hid hask
        clear hask
        go_wp2_with fail
        refine HASK.out.mono ?_
        rintro e w2 ⟨rfl, sl2, h2, hK2⟩
        have m2 := HM.out.asked h2 hK2
        have b2 := HK.out.trans ((HM.out.1.askKeep (Nat.le_refl _) hK2).below HK.out.size fun _ h => h)
        have hwa := wakeAll_any _ _ _ _ _ _ w2 m2 (ok_pow (by omega)) (by simp) (by rw [asl_length]; omega) b2.size (Nat.le_refl _) (asl_small (by omega))
        have hlt2 := m2.1.1.lt
        rw [asl_length] at hwa
        obtain ⟨f1, f2⟩ := mw_wake31 k hm31
        obtain ⟨g1, g2⟩ := wakeL_ok (asl k) (ok_pow (t := 31) (by omega))
        rw [asl_length] at g2
        generalize wakeL ⟨0, 2 ^ 31, []⟩ (asl k) = lw at *
        have HWA := Lib.hid hwa
        have HB2 := Lib.hid b2
        have HF := Lib.hid (And.intro f1 f2)
        have HG := Lib.hid (And.intro g1 (Nat.le_trans g2 (by simp; omega) : lw.line.length ≤ 900))
        clear hwa b2 m2 h2 hK2 HM HK HASK f1 f2 g1 g2
        go_wp2_with fail
        refine HWA.out.mono ?_
        rintro e w3 ⟨v, rfl, ho3, sl3, al3, m3, hK3⟩
        have b3 := HB2.out.trans (hK3.below HB2.out.size fun _ h => h)
        obtain ⟨A, c, rfl, _, _⟩ := own_form ho3
        have hsl := sleeping_any _ _ _ _ _ _ w3 m3 (by simp)
        have HSL := Lib.hid hsl
        have M3 := Lib.hid m3
        have B3 := Lib.hid b3
        have O3 := Lib.hid ho3
        clear hsl m3 b3 ho3 hK3
        go_wp2_with fail
        refine HSL.out.mono ?_
        rintro e w4 ⟨v4, rfl, hm4⟩
        obtain ⟨A4, c4, rfl, _, _, _⟩ := hm4.form
        have m4 := M3.out.up hm4.below
        have b4 := B3.out.trans (hm4.below.mono B3.out.size)
        have o4 := own_later O3.out hm4.below
        have hdr := drop_any _ _ _ _ _ _ 31 _ m4.1 HG.out.1 (by decide) HG.out.2 (by omega) HF.out.2
        rw [HF.out.1] at hdr
        have HDR := Lib.hid hdr
        have M4 := Lib.hid m4
        have B4 := Lib.hid b4
        have O4 := Lib.hid o4
        clear hdr m4 b4 o4 hm4 M3 B3 O3
        go_wp2_with fail
        refine HDR.out.mono ?_
        rintro e w5 ⟨v5, rfl, _, sl5, h5, hK5⟩
        have m5 := M4.out.dropped h5 hK5
        have b5 := B4.out.trans (hK5.below B4.out.size (fun k hk => by omega))
        have o5 := hK5.own O4.out hlt2
        have M5 := Lib.hid m5
        have B5 := Lib.hid b5
        have O5 := Lib.hid o5
        clear m5 b5 o5 hK5 h5 M4 B4 O4
        go_wp2
        go_loopw [12] (fun i wr => ∃ (j : Nat), j ≤ k ∧ i = .int .i64 j ∧ MonIn w1 wr (monS k j) [] ∧ wr.ownsRow w2.heap.size 3 1 (.slice A k c) k (i64s (asl k))) (fun i _ => k - (intOf i).toNat)
        case atStart => exact ⟨0, Nat.zero_le _, rfl, ⟨_, _, M5.out, B5.out⟩, O5.out⟩
        case round =>
          obtain ⟨j, hj, rfl, ⟨slq, alq, hMq, hKq⟩, hOq⟩ := hrel
          by_cases hjk : j < k
          · obtain ⟨ad, u, rfl, _, hux, hc⟩ := (Reads.of_own hOq).at_ hjk
            have hja : j < (asl k).length := by rw [asl_length]; exact hjk
            obtain rfl := i64s_get hux hja
            rw [asl_get hja] at hc
            obtain ⟨s1, s2⟩ := mw_step k hm31 j hjk
            have hjo := mw_ok hm31 hj
            obtain ⟨hjl, _⟩ := mw_len k hm31 j (by omega)
            have hhe := held_any _ _ _ _ _ _ (j : Int) wr hMq.1 hjo (by omega)
            rw [s1] at hhe
            have hdr := drop_any _ _ _ _ _ _ (j : Int) wr hMq.1 hjo (by decide) (by omega) (by omega) (by rw [s1]; decide)
            rw [s2] at hdr
            have HHE := Lib.hid hhe
            have HDR := Lib.hid hdr
            have HMQ := Lib.hid hMq
            have HKQ := Lib.hid hKq
            have HOQ := Lib.hid hOq
            clear hhe hdr hMq hKq hOq hux hjo hjl s1 s2
            go_wp2_with fail
            refine HHE.out.mono ?_
            rintro e w6 ⟨rfl, rfl⟩
            go_wp2_with fail
            refine HDR.out.mono ?_
            rintro e w7 ⟨v7, rfl, _, sl7, h7, hK7⟩
            have m7 := HMQ.out.dropped h7 hK7
            have b7 := HKQ.out.trans (hK7.below HKQ.out.size (fun k hk => by omega))
            have o7 := hK7.own HOQ.out hlt2
            have M7 := Lib.hid m7
            have B7 := Lib.hid b7
            have O7 := Lib.hid o7
            clear m7 b7 o7 hK7 h7
            go_wp2
            go_roundw
            case rel => exact ⟨j + 1, by omega, by go_num, ⟨_, _, M7.out, B7.out⟩, O7.out⟩
            case measure => simp [intOf]; omega
          · have hjk2 : j = k := by omega
            subst hjk2
            rw [monS_end] at hMq
            have hid := idle_any _ _ _ _ _ _ wr hMq emptyLk_ok (by kernel_rfl) rfl
            have HID := Lib.hid hid
            have HKQ := Lib.hid hKq
            clear hid hMq hKq hOq
            go_wp2_with fail
            refine HID.out.mono ?_
            rintro e w8 ⟨rfl, hb8⟩
            go_wp2
            go_ret
            exact ⟨rfl, HB.out.trans ((HKQ.out.trans (hb8.mono HKQ.out.size)).mono HB.out.size)⟩
  · have hpar2 : o % 2 = 1 := by omega
    go_enter Try.func6, Try.ntmps6
    go_wp2_with fail
    refine (mawake_any w).mono ?_
    rintro e w1 ⟨rfl, hb⟩
    have HB := Lib.hid hb
    clear hb
    go_wp2
    rw [hm]
    go_loopw [7] (fun i wr => ∃ (k : Nat), k ≤ m ∧ i = .int .i64 k ∧ MonIn w1 wr ⟨0, 0, []⟩ (asl k)) (fun i _ => m - (intOf i).toNat)
    case atStart => exact ⟨0, Nat.zero_le _, rfl, _, _, mon_new w1, sub_alloc (Below.refl _ _) _⟩
    case round =>
      obtain ⟨k, hk, rfl, sl, al, hM, hK⟩ := hrel
      by_cases hlt : k < m
      · have hask := ask_any w1.heap.size w1.heap.size _ _ _ _ (k : Int) true wr hM.1 emptyLk_ok (by decide) (by decide) hK.size (by omega)
        rw [mw_ask k (by omega)] at hask
        have HASK := Lib.hid hask
        have HM := Lib.hid hM
        have HK := Lib.hid hK
        clear hask hM hK
        go_wp2_with fail
        refine HASK.out.mono ?_
        rintro e w2 ⟨rfl, sl2, h2, hK2⟩
        have m2 := HM.out.asked h2 hK2
        have b2 := HK.out.trans ((HM.out.1.askKeep (Nat.le_refl _) hK2).below HK.out.size fun _ h => h)
        have hsl := sleep_any _ _ _ _ _ _ (k : Int) _ m2 (ok_pow (by omega)) (by simp) (by rw [asl_length]; omega) b2.size (Nat.le_refl _) (by omega) (mw_held k (by omega))
        rw [mw_drop k (by omega), asl_snoc] at hsl
        have HSL := Lib.hid hsl
        have HB2 := Lib.hid b2
        clear hsl b2 m2 h2 hK2 HM HK HASK
        go_wp2_with fail
        refine HSL.out.mono ?_
        rintro e w3 ⟨v, rfl, sl3, al3, m3, hK3⟩
        have b3 := HB2.out.trans (hK3.below HB2.out.size fun _ h => h)
        have M3 := Lib.hid m3
        have B3 := Lib.hid b3
        clear m3 hK3 b3
        go_wp2
        go_roundw
        case rel => exact ⟨k + 1, by omega, by go_num, sl3, al3, M3.out, B3.out⟩
        case measure => simp [intOf]; omega
      · have hkm : k = m := by omega
        subst hkm
        have HM := Lib.hid hM
        have HK := Lib.hid hK
        clear hM hK
        obtain ⟨wb, rfl⟩ : ∃ wb, wb = wr := ⟨_, rfl⟩
        have hwa := wakeAll_any _ _ _ _ _ _ wb HM.out emptyLk_ok (by simp) (by rw [asl_length]; omega) HK.out.size (Nat.le_refl _) (asl_small (by omega))
        have hlt2 := HM.out.1.1.lt
        rw [asl_length, mw_wake k hm31] at hwa
        have HWA := Lib.hid hwa
        clear hwa
        go_wp2_with fail
        refine HWA.out.mono ?_
        rintro e w3 ⟨v, rfl, ho3, sl3, al3, m3, hK3⟩
        have b3 := HK.out.trans (hK3.below HK.out.size fun _ h => h)
        obtain ⟨A, c, rfl, _, _⟩ := own_form ho3
        have hsl := sleeping_any _ _ _ _ _ _ w3 m3 (by simp)
        have HSL := Lib.hid hsl
        have M3 := Lib.hid m3
        have B3 := Lib.hid b3
        have O3 := Lib.hid ho3
        clear hsl m3 b3 ho3 hK3
        go_wp2_with fail
        refine HSL.out.mono ?_
        rintro e w4 ⟨v4, rfl, hm4⟩
        obtain ⟨A4, c4, rfl, _, _, _⟩ := hm4.form
        have m4 := M3.out.up hm4.below
        have b4 := B3.out.trans (hm4.below.mono B3.out.size)
        have o4 := own_later O3.out hm4.below
        have M4 := Lib.hid m4
        have B4 := Lib.hid b4
        have O4 := Lib.hid o4
        clear m4 b4 o4 hm4 M3 B3 O3
        go_wp2
        rw [hpar2]
        go_loopw [12] (fun i wr => ∃ (j : Nat), j ≤ k ∧ i = .int .i64 j ∧ MonIn w1 wr (monS k j) [] ∧ wr.ownsRow wb.heap.size 3 1 (.slice A k c) k (i64s (asl k))) (fun i _ => k - (intOf i).toNat)
        case atStart => exact ⟨0, Nat.zero_le _, rfl, ⟨_, _, M4.out, B4.out⟩, O4.out⟩
        case round =>
          obtain ⟨j, hj, rfl, ⟨slq, alq, hMq, hKq⟩, hOq⟩ := hrel
          by_cases hjk : j < k
          · obtain ⟨ad, u, rfl, _, hux, hc⟩ := (Reads.of_own hOq).at_ hjk
            have hja : j < (asl k).length := by rw [asl_length]; exact hjk
            obtain rfl := i64s_get hux hja
            rw [asl_get hja] at hc
            obtain ⟨s1, s2⟩ := mw_step k hm31 j hjk
            have hjo := mw_ok hm31 hj
            obtain ⟨hjl, _⟩ := mw_len k hm31 j (by omega)
            have hhe := held_any _ _ _ _ _ _ (j : Int) wr hMq.1 hjo (by omega)
            rw [s1] at hhe
            have hdr := drop_any _ _ _ _ _ _ (j : Int) wr hMq.1 hjo (by decide) (by omega) (by omega) (by rw [s1]; decide)
            rw [s2] at hdr
            have HHE := Lib.hid hhe
            have HDR := Lib.hid hdr
            have HMQ := Lib.hid hMq
            have HKQ := Lib.hid hKq
            have HOQ := Lib.hid hOq
            clear hhe hdr hMq hKq hOq hux hjo hjl s1 s2
            go_wp2_with fail
            refine HHE.out.mono ?_
            rintro e w6 ⟨rfl, rfl⟩
            go_wp2_with fail
            refine HDR.out.mono ?_
            rintro e w7 ⟨v7, rfl, _, sl7, h7, hK7⟩
            have m7 := HMQ.out.dropped h7 hK7
            have b7 := HKQ.out.trans (hK7.below HKQ.out.size (fun k hk => by omega))
            have o7 := hK7.own HOQ.out hlt2
            have M7 := Lib.hid m7
            have B7 := Lib.hid b7
            have O7 := Lib.hid o7
            clear m7 b7 o7 hK7 h7
            go_wp2
            go_roundw
            case rel => exact ⟨j + 1, by omega, by go_num, ⟨_, _, M7.out, B7.out⟩, O7.out⟩
            case measure => simp [intOf]; omega
          · have hjk2 : j = k := by omega
            subst hjk2
            rw [monS_end] at hMq
            have hid := idle_any _ _ _ _ _ _ wr hMq emptyLk_ok (by kernel_rfl) rfl
            have HID := Lib.hid hid
            have HKQ := Lib.hid hKq
            clear hid hMq hKq hOq
            go_wp2_with fail
            refine HID.out.mono ?_
            rintro e w8 ⟨rfl, hb8⟩
            go_wp2
            go_ret
            exact ⟨rfl, HB.out.trans ((HKQ.out.trans (hb8.mono HKQ.out.size)).mono HB.out.size)⟩
end Go.Proofs.Ytlkappmielllcaa
