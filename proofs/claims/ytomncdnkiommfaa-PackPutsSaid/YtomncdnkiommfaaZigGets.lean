/-
  ZigGets: for every list of bytes what it begins with is read as the document says, or what is wrong with it is told; the argument reads as it did. Condition: none.
-/
import Derived.Test.YtomncdnkiommfaaZigPut
namespace Go.Proofs.Ytomncdnkiommfaa
open Go.RowKit Go.Fw
set_option maxHeartbeats 400000
set_option maxRecDepth 4000
set_option linter.unusedVariables false
set_option linter.unusedSimpArgs false

theorem awake_any (w : World) : Calls Try.prog 8 #[] w fun e w' => e = .returned (.bool true) ∧ Below w.heap.size w w' := by
  have e0 : putL [-1, 64] = [1, 128, 1] := by decide
  have HE := Lib.hid e0
  clear e0
  have h1 : perr (getL [128] 0 0).snd.snd = 11 := by decide
  have h2 : perr (getL [128, 0] 0 0).snd.snd = 10 := by decide
  go_enter Try.func8, Try.ntmps8
  go_wp2_with fail
  refine (get_any [128] _ _ _ _ (reads_new_at w 5 #[.int .u8 128] 1 _ _ rfl rfl rfl) (by decide)).mono ?_
  rintro e w1 ⟨rfl, rfl⟩
  go_wp2_with fail
  refine (get_any [128, 0] _ _ (w.heap.size + 1 + 1) _ (reads_new_at _ 5 #[.int .u8 128, .int .u8 0] 2 _ _ rfl (by simp) (by simp)) (by decide)).mono ?_
  rintro e w1 ⟨rfl, rfl⟩
  go_wp2_with fail
  refine (put_any [-1, 64] (by decide) (small_of (by decide)) _ _ _ (reads_new_at _ 2 #[.int .i64 (-1), .int .i64 64] 2 _ _ rfl (by simp) (by simp))).mono ?_
  rintro e w1 ⟨v, rfl, hm⟩
  rw [HE.out] at hm
  have hb := sub_trans (sub_alloc (sub_alloc (sub_alloc (Below.refl _ w) _) _) _) hm.below
  obtain ⟨A, c, rfl, _, _, hr⟩ := hm.form
  have hcv := run_str_reads (P := Try.prog) 22 9 5 c Try.underlying22 Try.underlying5 Try.underlying9 hr
  clear hm hr
  go_wp2
  go_ret
  exact ⟨rfl, hb⟩

theorem zigGets_walk (l : List UInt8) (A : Option Addr) (c : Nat) (w : World) (hr : Reads w w.heap.size 1 A l.length (bys l)) (hlc : l.length ≤ maxLen ∧ l.length ≤ c) :
    Calls Try.prog 3 #[.slice A l.length c] w fun e w' => e = .returned (.bool true) ∧ Below w.heap.size w w' := by
  have hl := hlc.1
  clear hlc
  by_cases h : l.length ≤ 300
  · go_enter Try.func3, Try.ntmps3
    go_wp2_with fail
    refine (awake_any w).mono ?_
    rintro e w1 ⟨rfl, hb⟩
    have hr1 := hr.below hb
    have hc : (getL l 0 0).2.2 = 0 ∨ (getL l 0 0).2.2 = 1 ∨ (getL l 0 0).2.2 = 2 := getL_code l 0 0
    go_wp2_with fail
    refine (get_any l _ _ _ _ hr1 hl).mono ?_
    rintro e w2 ⟨rfl, rfl⟩
    go_wp2_with fail
    refine (rget_any l _ _ _ _ hr1 hl).mono ?_
    rintro e w2 ⟨rfl, rfl⟩
    generalize getL l 0 0 = g at *
    go_wp2_with (go_at_call 11; refine (code_any _ _ hc).mono ?_; rintro e w2 ⟨rfl, rfl⟩)
    go_ret
    exact ⟨rfl, hb⟩
  · unfold maxLen at hl
    go_enter Try.func3, Try.ntmps3
    go_wp2_with fail
    refine (awake_any w).mono ?_
    rintro e w1 ⟨rfl, hb⟩
    go_wp2
    go_ret
    exact ⟨rfl, hb⟩
end Go.Proofs.Ytomncdnkiommfaa
