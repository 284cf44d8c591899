/-
  A shape's text by the program, walked (chapter 54). Condition: strconv's table lies in memory.
-/
import Derived.Test.YtcmnlnnhebdblaaDoorShText
namespace Go.Fw
open Go.RowKit
theorem strs_snoc (l : List ByteArray) (x : ByteArray) : strs (l ++ [x]) = strs l ++ [.string x] := by simp [strs]
theorem shWB_take (k lo hi p ph : Int) {j : Nat} (hj : j < 4) : (shWB k lo hi p ph).take (j + 2) = (shWB k lo hi p ph).take (j + 1) ++ [decB (sel4 lo hi p ph j)] := by
  have hor : j = 0 ∨ j = 1 ∨ j = 2 ∨ j = 3 := by omega
  rcases hor with rfl | rfl | rfl | rfl <;> rfl
theorem shWB_list (k lo hi p ph : Int) : (shWB k lo hi p ph).map (·.data.toList) = shWords k lo hi p ph := by simp [shWB, shWords, decB_list, kwB]
end Go.Fw
namespace Go.Proofs.YtcmnlnnhebdblaaDoor
open Go.RowKit Go.Fw Go.Shelf
set_option maxHeartbeats 2000000
set_option maxRecDepth 100000
set_option linter.unusedVariables false
set_option linter.unusedSimpArgs false
theorem swords_any (w : World) : Calls Tryd.prog 16 #[] w fun x w' => x = .returned (.agg #[.string ⟨#[]⟩, .string ⟨#[102, 108, 97, 116]⟩, .string ⟨#[115, 97, 119]⟩, .string ⟨#[115, 116, 101, 112]⟩, .string ⟨#[112, 117, 108, 115, 101]⟩, .string ⟨#[112, 101, 97, 107]⟩]) ∧ Below w.heap.size w w' := by
  go_enter Tryd.func16, Tryd.ntmps16
  go_wp2
  exact bodyPost_ret (v := .agg #[.string ⟨#[]⟩, .string ⟨#[102, 108, 97, 116]⟩, .string ⟨#[115, 97, 119]⟩, .string ⟨#[115, 116, 101, 112]⟩, .string ⟨#[112, 117, 108, 115, 101]⟩, .string ⟨#[112, 101, 97, 107]⟩]) (by simp [results, Tryd.results16, go_sem]; try rfl) rfl ⟨rfl, by simpa using sub_alloc (Below.refl _ w) _⟩
theorem shtext_bad (k lo hi p ph : Int) (w : World) (he : errS k lo hi p ≠ 0) :
    Calls Tryd.prog 6 #[.agg #[.int .i64 k, .int .i64 lo, .int .i64 hi, .int .i64 p, .int .i64 ph]] w fun x w' => x = .returned (.tuple #[.string ByteArray.empty, .int .i64 (errS k lo hi p)]) ∧ Below w.heap.size w w' := by
  have HC := Lib.hid (fun W => scheck_any k lo hi p ph W)
  have HBX := Lib.hid (fun W => Blk.new_at W 28 #[.int .i64 k, .int .i64 lo, .int .i64 hi, .int .i64 p, .int .i64 ph] (g := W.heap.size) rfl)
  generalize errS k lo hi p = er at *
  have HB := Lib.hid (fun o => sub_alloc (Below.refl _ w) o)
  go_enter Tryd.func6, Tryd.ntmps6
  have g0 := HBX.out w
  have c0 := g0.cell 0
  have c1 := g0.cell 1
  have c2 := g0.cell 2
  have c3 := g0.cell 3
  have c4 := g0.cell 4
  simp at c0 c1 c2 c3 c4
  clear g0
  go_wp2_with fail
  refine (HC.out _).mono ?_
  rintro x w1 ⟨rfl, hb⟩
  have h1 := sub_trans (HB.out _) hb
  clear hb
  go_wp2
  exact bodyPost_ret (v := .tuple #[.string ByteArray.empty, .int .i64 er]) (by simp [results, Tryd.results6, go_sem]; rfl) rfl ⟨rfl, h1⟩
theorem shtext_ok (k lo hi p ph : Int) (h5 : In5 k lo hi p ph) (w : World) (hT : Pow w) (he : errS k lo hi p = 0) :
    Calls Tryd.prog 6 #[.agg #[.int .i64 k, .int .i64 lo, .int .i64 hi, .int .i64 p, .int .i64 ph]] w fun x w' => x = .returned (.tuple #[.string (shB k lo hi p ph), .int .i64 0]) ∧ Below w.heap.size w w' := by
  have HC := Lib.hid (fun W => scheck_any k lo hi p ph W)
  have hok := errS_ok he
  rw [he] at HC
  obtain ⟨kn, hkn⟩ : ∃ kn : Nat, k = kn := ⟨k.toNat, by omega⟩
  subst hkn
  have hk6 : kn < 6 := by omega
  have hcell : (#[Value.string ⟨#[]⟩, .string ⟨#[102, 108, 97, 116]⟩, .string ⟨#[115, 97, 119]⟩, .string ⟨#[115, 116, 101, 112]⟩, .string ⟨#[112, 117, 108, 115, 101]⟩, .string ⟨#[112, 101, 97, 107]⟩] : Array Value)[kn]? = some (.string (kwB kn)) := by
    have hor : kn = 1 ∨ kn = 2 ∨ kn = 3 ∨ kn = 4 ∨ kn = 5 := by omega
    rcases hor with rfl | rfl | rfl | rfl | rfl <;> rfl
  have HIX := Lib.hid (fun W => idx_kw _ _ kn W hk6 hcell)
  have HBX := Lib.hid (fun W => Blk.new_at W 28 #[.int .i64 kn, .int .i64 lo, .int .i64 hi, .int .i64 p, .int .i64 ph] (g := W.heap.size) rfl)
  have HB0 := Lib.hid (fun o => sub_alloc (Below.refl _ w) o)
  have HT := Lib.hid hT
  have H5 := Lib.hid h5
  have hkw : [kwB kn] = (shWB kn lo hi p ph).take 1 := rfl
  have HKW := Lib.hid hkw
  clear h5 he hok hcell hT hkw
  generalize kwB kn = K0 at *
  go_enter Tryd.func6, Tryd.ntmps6
  have g0 := HBX.out w
  have c0 := g0.cell 0
  have c1 := g0.cell 1
  have c2 := g0.cell 2
  have c3 := g0.cell 3
  have c4 := g0.cell 4
  simp at c0 c1 c2 c3 c4
  clear g0
  go_wp2_with fail
  refine (HC.out _).mono ?_
  rintro x w1 ⟨rfl, hb⟩
  have h1 := sub_trans (HB0.out _) hb
  have g1 := (HBX.out w).later hb
  have HG := Lib.hid (And.intro h1 g1)
  clear hb h1 g1 c0 c1 c2 c3 c4
  go_wp2
  have hS0 : Below w1.heap.size w1 w1.drew := (Below.refl _ _).drew
  refine any_start (S := fun W => Below w1.heap.size w1 W) (by kernel_rfl) hS0 ?_
  simp only [List.length_cons, List.length_nil, Nat.reduceAdd, List.size_toArray]
  refine any_pure 1 (v := ?_) rfl (by kernel_rfl) (by intro _ _ _ h; exact h) (by assumption) (by rfl) (fun W hW => ?_) ?_
  rotate_left
  · first | (go_simp; done) | (go_simp; with_reducible rfl)
  try simp only [Act.put, List.setIfInBounds_toArray, List.set_cons_zero, List.set_cons_succ]
  refine any_pure 2 (v := ?_) rfl (by kernel_rfl) (by intro _ _ _ h; exact h) (by assumption) (by rfl) (fun W hW => ?_) ?_
  rotate_left
  · have c0 := (HG.out.2.later hW).cell 0; simp at c0; first | (go_simp; done) | (go_simp; with_reducible rfl)
  try simp only [Act.put, List.setIfInBounds_toArray, List.set_cons_zero, List.set_cons_succ]
  refine any_one 0 (by kernel_rfl) rfl (by rfl) (fun K hK => ?_)
  go_simp
  refine (swords_any _).mono ?_
  rintro x w2 ⟨rfl, hb⟩
  have hS2 := sub_trans hS0 hb
  refine hK _ _ hS2 ?_
  clear hK hb
  try simp only [Act.put, List.setIfInBounds_toArray, List.set_cons_zero, List.set_cons_succ]
  refine any_pure 3 (v := ?_) rfl (by kernel_rfl) (by intro _ _ _ h; exact h) (by assumption) (by rfl) (fun W hW => ?_) ?_
  rotate_left
  · have hix := HIX.out; first | (go_simp; done) | (go_simp; with_reducible rfl)
  try simp only [Act.put, List.setIfInBounds_toArray, List.set_cons_zero, List.set_cons_succ]
  refine any_one 4 (by kernel_rfl) rfl (by rfl) (fun K hK => ?_)
  go_simp
  have hS3 := sub_alloc hS2 (.cells #[.string K0] 9)
  refine hK _ _ hS3 ?_
  clear hK
  try simp only [Act.put, List.setIfInBounds_toArray, List.set_cons_zero, List.set_cons_succ]
  refine any_pure 5 (v := ?_) rfl (by kernel_rfl) (by intro _ _ _ h; exact h) (by assumption) (by rfl) (fun W hW => ?_) ?_
  rotate_left
  · first | (go_simp; done) | (go_simp; with_reducible rfl)
  try simp only [Act.put, List.setIfInBounds_toArray, List.set_cons_zero, List.set_cons_succ]
  refine any_done (by kernel_rfl) ?_
  have g3 := HG.out.2.later hS3
  have c1 := g3.cell 1
  have c2 := g3.cell 2
  have c3 := g3.cell 3
  have c4 := g3.cell 4
  simp only [List.getElem?_toArray, List.getElem?_cons_succ, List.getElem?_cons_zero] at c1 c2 c3 c4
  go_wp2
  have hn2 : w.heap.size + 1 ≤ w2.heap.size := by
    have := hS2.size
    have := HG.out.2.lt
    omega
  obtain ⟨g, hg⟩ : ∃ g, g = w2.heap.size + 1 := ⟨_, rfl⟩
  obtain ⟨WA, hWA⟩ : ∃ WA, (w2.alloc (.cells #[.string K0] 9)).alloc (.cells #[.int .i64 lo, .int .i64 hi, .int .i64 p, .int .i64 ph] 2) = WA := ⟨_, rfl⟩
  have hM : MineS 1 w WA 9 (.slice (some ⟨w2.heap.size, 0, none⟩) 1 1) 1 (strs ((shWB kn lo hi p ph).take 1)) := by
    rw [← hWA, ← HKW.out]
    exact ⟨own_of_blk (n := 1) (s := 1) ((Blk.new_at w2 9 #[.string K0] (g := w2.heap.size) rfl).alloc _) (by omega) rfl (by simp [maxLen]), sub_alloc (sub_trans HG.out.1 hS3) _⟩
  have hI : Blk WA g 2 #[.int .i64 lo, .int .i64 hi, .int .i64 p, .int .i64 ph] := by
    rw [← hWA]
    exact Blk.new_at _ 2 _ (by simp [hg])
  rw [hWA, ← hg]
  clear hWA hg g3 c1 c2 c3 c4 hS3 hS2 hS0 hn2
  go_loopw [5, 28] (fun v i wr => ∃ j : Nat, j ≤ 4 ∧ i = .int .i64 j ∧ MineS 1 w wr 9 v (j + 1) (strs ((shWB kn lo hi p ph).take (j + 1))) ∧ Blk wr g 2 #[.int .i64 lo, .int .i64 hi, .int .i64 p, .int .i64 ph])
    (fun _ i _ => 4 - (intOf i).toNat)
  case atStart => exact ⟨0, by omega, rfl, hM, hI⟩
  case round =>
    obtain ⟨j, hj, rfl, hm, hbI⟩ := hrel
    obtain ⟨v, hv⟩ : ∃ v, v = u5 := ⟨_, rfl⟩
    subst hv
    by_cases hlt : j < 4
    · have hx := sel4_in H5.out j
      have hs := shWB_take kn lo hi p ph hlt
      have hc : wr.cell? ⟨g, j, none⟩ = some (.int .i64 (sel4 lo hi p ph j)) := (hbI.cell j).trans (by
        have hor : j = 0 ∨ j = 1 ∨ j = 2 ∨ j = 3 := by omega
        rcases hor with rfl | rfl | rfl | rfl <;> rfl)
      generalize sel4 lo hi p ph j = x at *
      have HS := Lib.hid hs
      have HX := Lib.hid hx
      have HM := Lib.hid (And.intro hm hbI)
      have hltI : (j : Int) < 4 := by omega
      clear hs hx hm hbI
      go_wp2_with fail
      refine (fmt_any x HX.out wr (pow_up HT.out HM.out.1.below)).mono ?_
      rintro y w3 ⟨rfl, hb⟩
      have hm2 := HM.out.1.later hb
      have hi2 := HM.out.2.later hb
      have hne := own_ne hm2.own hi2 (by decide)
      clear hc hb
      go_wp2_with (at_builtin; go_must (refine wpList_append_oneG elemS (by decide) rfl (.tmp 32) (.tmp 35) rfl rfl hm2.own hm2.le rfl rfl rfl (by simp [Value.oneCell']) (by omega) (by unfold maxLen; omega) ?_); intro v' w' hm' hg')
      have hm3 := hm2.app hg' hm'
      have hi3 := hi2.grown hg' (fun e => hne e.symm)
      have HF := Lib.hid (And.intro hm3 hi3)
      clear hm3 hi3 hm' hg' hm2 hi2 hne
      go_wp2
      go_roundw
      case rel => exact ⟨j + 1, by omega, by go_num, by rw [show j + 1 + 1 = j + 2 from rfl, HS.out, strs_snoc]; exact HF.out.1, HF.out.2⟩
      case measure => simp [intOf]; omega
    · obtain rfl : j = 4 := by omega
      have e5 : (shWB kn lo hi p ph).take (4 + 1) = shWB kn lo hi p ph := rfl
      rw [e5] at hm
      have hj := join_any v (shWB kn lo hi p ph) 5 w wr hm rfl (by decide) (by
        rw [shWB_list]
        have := shT_len H5.out
        unfold shT at this
        omega) (by decide)
      rw [shWB_list] at hj
      have HJ := Lib.hid hj
      have HM := Lib.hid hm.below
      clear hj hm hbI e5
      go_wp2_with fail
      refine HJ.out.mono ?_
      rintro y w4 ⟨rfl, hb⟩
      have h4 := sub_trans HM.out hb
      clear hb
      go_wp2
      exact bodyPost_ret (v := .tuple #[.string (shB kn lo hi p ph), .int .i64 0]) (by simp [results, Tryd.results6, go_sem]; rfl) rfl ⟨rfl, h4⟩
end Go.Proofs.YtcmnlnnhebdblaaDoor
