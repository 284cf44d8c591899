/-
  The example of chapter 41, walked. Conditions: strconv's table and errors lie in memory, a number in internal/bytealg.MaxLen.
-/
import Derived.Test.YteljecehppeamaaDoorLinParse
import Derived.Test.YteljecehppeamaaDoorLinNum
import Derived.Test.YteljecehppeamaaDoorPolHas
import Derived.Test.YteljecehppeamaaDoorRow
namespace Go.Fw
open Go.RowKit
set_option linter.unusedSimpArgs false
theorem itoa_1 : Lib.itoa 1 = [49] := itoa_one (n := 1) (by decide)
theorem itoa_5 : Lib.itoa 5 = [53] := itoa_one (n := 5) (by decide)
theorem dec_1 : decB 1 = ⟨#[49]⟩ := by unfold decB; rw [itoa_1]
theorem dec_5 : decB 5 = ⟨#[53]⟩ := by unfold decB; rw [itoa_5]
theorem read_1 : readW ⟨#[49]⟩ = some 1 := by rw [← dec_1]; exact readW_in ⟨by decide, by decide⟩
theorem read_5 : readW ⟨#[53]⟩ = some 5 := by rw [← dec_5]; exact readW_in ⟨by decide, by decide⟩
theorem read_01 : readW ⟨#[48, 49]⟩ = none := by
  cases h : readW ⟨#[48, 49]⟩ with
  | none => rfl
  | some v =>
    have h1 := (readW_numL h).2.1
    have h2 : numL [48, 49] = some 1 := by simp [numL, goF, digB, stepN, wrap64]
    have h3 : some (1 : Int) = some v := h2.symm.trans h1
    injection h3 with h3
    subst h3
    have h4 := (readW_some h).2.2
    rw [dec_1] at h4
    exact absurd (congrArg ByteArray.size h4) (by decide)
theorem line_a : lineB ⟨1, ⟨#[97]⟩, 1, 5, 0, 0, 0, 0, 0, 0, 0⟩ = ⟨#[105, 110, 103, 101, 115, 116, 32, 97, 32, 49, 32, 53]⟩ := by
  refine bytes_ext ?_
  rw [lineB_list]
  simp [lineWs, itoa_1, itoa_5, joinS, vbS]
theorem line_A : lineB ⟨1, ⟨#[65]⟩, 1, 5, 0, 0, 0, 0, 0, 0, 0⟩ = ⟨#[105, 110, 103, 101, 115, 116, 32, 65, 32, 49, 32, 53]⟩ := by
  refine bytes_ext ?_
  rw [lineB_list]
  simp [lineWs, itoa_1, itoa_5, joinS, vbS]
theorem text_a : textE ⟨1, ⟨#[97]⟩, 1, 5, 0, 0, 0, 0, 0, 0, 0⟩ = 0 := by decide
theorem parse_A : parseC ⟨#[105, 110, 103, 101, 115, 116, 32, 65, 32, 49, 32, 53]⟩ = (Cl.zero, 2) := by
  have hw : wordsB 32 ⟨#[105, 110, 103, 101, 115, 116, 32, 65, 32, 49, 32, 53]⟩ = [vbB 1, ⟨#[65]⟩, ⟨#[49]⟩, ⟨#[53]⟩] := by rfl
  have hr : readC 1 (wordsB 32 ⟨#[105, 110, 103, 101, 115, 116, 32, 65, 32, 49, 32, 53]⟩) = some ⟨1, ⟨#[65]⟩, 1, 5, 0, 0, 0, 0, 0, 0, 0⟩ := by rw [hw]; simp [readC, read_1, read_5]
  have hk : kindW (headW (wordsB 32 ⟨#[105, 110, 103, 101, 115, 116, 32, 65, 32, 49, 32, 53]⟩)) = 1 := by rw [hw]; exact kindW_vb 1 (by decide) (by decide)
  rw [parseC_told (by rw [hk]; decide) (by rw [hk]; exact hr)]
  exact toldC_id line_A (by decide) (by decide)
theorem parse_01 : parseC ⟨#[105, 110, 103, 101, 115, 116, 32, 97, 32, 48, 49, 32, 53]⟩ = (Cl.zero, 10) := by
  have hw : wordsB 32 ⟨#[105, 110, 103, 101, 115, 116, 32, 97, 32, 48, 49, 32, 53]⟩ = [vbB 1, ⟨#[97]⟩, ⟨#[48, 49]⟩, ⟨#[53]⟩] := by rfl
  have hk : kindW (headW (wordsB 32 ⟨#[105, 110, 103, 101, 115, 116, 32, 97, 32, 48, 49, 32, 53]⟩)) = 1 := by rw [hw]; exact kindW_vb 1 (by decide) (by decide)
  refine parseC_form (by rw [hk]; decide) ?_
  rw [hk, hw]
  simp [readC, read_01]
theorem parse_go : parseC ⟨#[103, 111]⟩ = (Cl.zero, 14) := parseC_none (by decide)
end Go.Fw
namespace Go.Proofs.YteljecehppeamaaDoor
open Go.RowKit Go.Fw Go.Shelf
set_option maxHeartbeats 1000000
set_option maxRecDepth 100000
set_option linter.unusedVariables false
set_option linter.unusedSimpArgs false
theorem stat_neq (w : World) : (binOp .neq 70 (.agg #[.int .i64 0, .int .i64 0, .int .i64 0, .int .i64 0, .int .i64 0]) (.agg #[.int .i64 0, .int .i64 0, .int .i64 0, .int .i64 0, .int .i64 0])).run Tryd.prog w = .ok (.bool false) w := by
  obtain ⟨ls, hl⟩ := Option.isSome_iff_exists.1 (show (Tryd.prog.keyLits 8 70 [.int .i64 0, .int .i64 0, .int .i64 0, .int .i64 0, .int .i64 0]).isSome = true by kernel_rfl)
  exact neq_self (m := 5) (by decide) (by kernel_rfl) (by kernel_rfl) #[.int .i64 0, .int .i64 0, .int .i64 0, .int .i64 0, .int .i64 0] (by kernel_rfl) hl w
theorem adv_neq (w : World) : (binOp .neq 72 (.agg #[.int .i64 0, .int .i64 0, .int .i64 0, .int .i64 0, .int .i64 0]) (.agg #[.int .i64 0, .int .i64 0, .int .i64 0, .int .i64 0, .int .i64 0])).run Tryd.prog w = .ok (.bool false) w := by
  obtain ⟨ls, hl⟩ := Option.isSome_iff_exists.1 (show (Tryd.prog.keyLits 8 72 [.int .i64 0, .int .i64 0, .int .i64 0, .int .i64 0, .int .i64 0]).isSome = true by kernel_rfl)
  exact neq_self (m := 5) (by decide) (by kernel_rfl) (by kernel_rfl) #[.int .i64 0, .int .i64 0, .int .i64 0, .int .i64 0, .int .i64 0] (by kernel_rfl) hl w
theorem reply0_any (w : World) : Calls Tryd.prog 34 #[.agg #[.int .i64 0, .int .i64 0, .int .i64 0, .int .i64 0, .int .i64 0, .int .i64 0, .int .i64 0, .int .i64 0, .int .i64 0, .int .i64 0, .int .i64 0, .int .i64 0, .int .i64 0]] w fun y w' => y = .returned (.string ⟨#[111, 107]⟩) ∧ Below w.heap.size w w' := by
  have hs := fun W => stat_neq W
  have ha := fun W => adv_neq W
  have hjl : (joinS 32 ([(⟨#[111, 107]⟩ : ByteArray)].map (·.data.toList))) = [111, 107] := by rfl
  have HJ := Lib.hid hjl
  clear hjl
  go_enter Tryd.func34, Tryd.ntmps34
  go_wp2_with fail
  have hM1 : MineS 1 w ((w.alloc (.cells #[.int .i64 0, .int .i64 0, .int .i64 0, .int .i64 0, .int .i64 0, .int .i64 0, .int .i64 0, .int .i64 0, .int .i64 0, .int .i64 0, .int .i64 0, .int .i64 0, .int .i64 0] 74)).alloc (.cells #[.string ⟨#[111, 107]⟩] 9)) 9 (.slice (some ⟨w.heap.size + 1, 0, none⟩) 1 1) 1 (strs [⟨#[111, 107]⟩]) := ⟨own_of_blk (n := 1) (s := 1) (Blk.new_at _ 9 #[.string ⟨#[111, 107]⟩] (g := w.heap.size + 1) (by simp)) (by omega) rfl (by simp [maxLen]), sub_alloc (sub_alloc (Below.refl _ w) _) _⟩
  have hM2 := hM1.later (sub_alloc (Below.refl _ _) (.cells #[.int .i64 0, .int .i64 0, .int .i64 0, .int .i64 0, .int .i64 0] 70))
  refine (join_any _ [⟨#[111, 107]⟩] 1 w _ hM2 rfl (by decide) (by rw [HJ.out]; decide) (by decide)).mono ?_
  rintro y w5 ⟨rfl, hb5⟩
  have h5 := sub_trans hM2.below hb5
  rw [HJ.out]
  clear hM1 hM2 hb5
  go_wp2
  go_ret
  exact ⟨rfl, h5⟩
theorem la_awake (w : World) (hR : Ready w) : Calls Tryd.prog 15 #[] w fun y w' => y = .returned (.bool true) ∧ Below w.heap.size w w' := by
  have HTX : Hid (∀ W, Pow W → Calls Tryd.prog 18 #[.agg #[.int .i64 1, .string ⟨#[97]⟩, .int .i64 1, .int .i64 5, .int .i64 0, .int .i64 0, .int .i64 0, .int .i64 0, .int .i64 0, .int .i64 0, .int .i64 0]] W fun y w' => y = .returned (.tuple #[.string ⟨#[105, 110, 103, 101, 115, 116, 32, 97, 32, 49, 32, 53]⟩, .int .i64 0]) ∧ Below W.heap.size W w') := Lib.hid (fun W hP => by
    have h := ltext_any ⟨1, ⟨#[97]⟩, 1, 5, 0, 0, 0, 0, 0, 0, 0⟩ W hP ⟨⟨by decide, by decide⟩, ⟨by decide, by decide⟩, ⟨by decide, by decide⟩, zero_in, ⟨zero_in, zero_in, zero_in, zero_in, zero_in, zero_in⟩, by decide⟩
    rw [text_a, show textB ⟨1, ⟨#[97]⟩, 1, 5, 0, 0, 0, 0, 0, 0, 0⟩ = ⟨#[105, 110, 103, 101, 115, 116, 32, 97, 32, 49, 32, 53]⟩ from by unfold textB; rw [text_a, line_a]; rfl] at h
    exact h)
  have HPA : Hid (∀ W, Ready W → Calls Tryd.prog 16 #[.string ⟨#[105, 110, 103, 101, 115, 116, 32, 65, 32, 49, 32, 53]⟩] W fun y w' => y = .returned (.tuple #[.agg #[.int .i64 0, .string ⟨#[]⟩, .int .i64 0, .int .i64 0, .int .i64 0, .int .i64 0, .int .i64 0, .int .i64 0, .int .i64 0, .int .i64 0, .int .i64 0], .int .i64 2]) ∧ Below W.heap.size W w') := Lib.hid (fun W hW => by
    have h := parse_any ⟨#[105, 110, 103, 101, 115, 116, 32, 65, 32, 49, 32, 53]⟩ W hW (by decide)
    rw [parse_A] at h
    exact h)
  have HPB : Hid (∀ W, Ready W → Calls Tryd.prog 16 #[.string ⟨#[105, 110, 103, 101, 115, 116, 32, 97, 32, 48, 49, 32, 53]⟩] W fun y w' => y = .returned (.tuple #[.agg #[.int .i64 0, .string ⟨#[]⟩, .int .i64 0, .int .i64 0, .int .i64 0, .int .i64 0, .int .i64 0, .int .i64 0, .int .i64 0, .int .i64 0, .int .i64 0], .int .i64 10]) ∧ Below W.heap.size W w') := Lib.hid (fun W hW => by
    have h := parse_any ⟨#[105, 110, 103, 101, 115, 116, 32, 97, 32, 48, 49, 32, 53]⟩ W hW (by decide)
    rw [parse_01] at h
    exact h)
  have HPC : Hid (∀ W, Ready W → Calls Tryd.prog 16 #[.string ⟨#[103, 111]⟩] W fun y w' => y = .returned (.tuple #[.agg #[.int .i64 0, .string ⟨#[]⟩, .int .i64 0, .int .i64 0, .int .i64 0, .int .i64 0, .int .i64 0, .int .i64 0, .int .i64 0, .int .i64 0, .int .i64 0], .int .i64 14]) ∧ Below W.heap.size W w') := Lib.hid (fun W hW => by
    have h := parse_any ⟨#[103, 111]⟩ W hW (by decide)
    rw [parse_go] at h
    exact h)
  have HR := Lib.hid hR
  clear hR
  go_enter Tryd.func15, Tryd.ntmps15
  go_wp2_with fail
  refine (HTX.out _ HR.out.tabs.pow).mono ?_
  rintro y w1 ⟨rfl, h1⟩
  go_wp2_with fail
  refine (HPA.out _ (HR.out.up h1)).mono ?_
  rintro y w2 ⟨rfl, hb⟩
  have g2 := sub_alloc (sub_trans h1 hb) (.cells #[.int .i64 0, .string ⟨#[]⟩, .int .i64 0, .int .i64 0, .int .i64 0, .int .i64 0, .int .i64 0, .int .i64 0, .int .i64 0, .int .i64 0, .int .i64 0] 35)
  clear hb h1
  go_wp2_with fail
  refine (HPB.out _ (HR.out.up g2)).mono ?_
  rintro y w3 ⟨rfl, hb⟩
  have g3 := sub_alloc (sub_trans g2 hb) (.cells #[.int .i64 0, .string ⟨#[]⟩, .int .i64 0, .int .i64 0, .int .i64 0, .int .i64 0, .int .i64 0, .int .i64 0, .int .i64 0, .int .i64 0, .int .i64 0] 35)
  clear hb g2
  go_wp2_with fail
  refine (HPC.out _ (HR.out.up g3)).mono ?_
  rintro y w4 ⟨rfl, hb⟩
  have g4 := sub_alloc (sub_trans g3 hb) (.cells #[.int .i64 0, .string ⟨#[]⟩, .int .i64 0, .int .i64 0, .int .i64 0, .int .i64 0, .int .i64 0, .int .i64 0, .int .i64 0, .int .i64 0, .int .i64 0] 35)
  clear hb g3
  go_wp2_with fail
  refine (reply0_any _).mono ?_
  rintro y w5 ⟨rfl, hb⟩
  have h5 := sub_trans g4 hb
  clear hb g4
  go_wp2
  go_ret
  exact ⟨by first | rfl | simp, h5⟩
end Go.Proofs.YteljecehppeamaaDoor
