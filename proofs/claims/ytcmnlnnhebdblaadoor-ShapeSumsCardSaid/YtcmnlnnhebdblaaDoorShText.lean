/-
  A shape's text, and the reference's, walked (chapter 54). Condition: strconv's table lies in memory.
-/
import Derived.Test.YtcmnlnnhebdblaaDoorShCheck
import Derived.Test.YtcmnlnnhebdblaaDoorStrconvF
import Derived.Test.YtcmnlnnhebdblaaDoorStrJoin
import Derived.Test.YtcmnlnnhebdblaaDoorDec
import Derived.Test.YtcmnlnnhebdblaaDoorRegion
import Derived.Test.YtcmnlnnhebdblaaDoorIdx5
namespace Go.Proofs.YtcmnlnnhebdblaaDoor
open Go.RowKit Go.Fw Go.Shelf
set_option maxHeartbeats 2000000
set_option maxRecDepth 100000
set_option linter.unusedVariables false
set_option linter.unusedSimpArgs false
theorem rshtext_bad (k lo hi p ph : Int) (w : World) (he : errS k lo hi p ≠ 0) :
    Calls Tryd.prog 7 #[.agg #[.int .i64 k, .int .i64 lo, .int .i64 hi, .int .i64 p, .int .i64 ph]] w fun x w' => x = .returned (.tuple #[.string ByteArray.empty, .int .i64 (errS k lo hi p)]) ∧ Below w.heap.size w w' := by
  have HC := Lib.hid (fun W => rcheck_any k lo hi p ph W)
  generalize errS k lo hi p = er at *
  have HB := Lib.hid (fun o => sub_alloc (Below.refl _ w) o)
  go_enter Tryd.func7, Tryd.ntmps7
  go_wp2_with fail
  refine (HC.out _).mono ?_
  rintro x w1 ⟨rfl, hb⟩
  have h1 := sub_trans (HB.out _) hb
  clear hb
  go_wp2
  exact bodyPost_ret (v := .tuple #[.string ByteArray.empty, .int .i64 er]) (by simp [results, Tryd.results7, go_sem]; rfl) rfl ⟨rfl, h1⟩
theorem rshtext_ok (k lo hi p ph : Int) (h5 : In5 k lo hi p ph) (w : World) (he : errS k lo hi p = 0) :
    Calls Tryd.prog 7 #[.agg #[.int .i64 k, .int .i64 lo, .int .i64 hi, .int .i64 p, .int .i64 ph]] w fun x w' => x = .returned (.tuple #[.string (shB k lo hi p ph), .int .i64 0]) ∧ Below w.heap.size w w' := by
  have HC := Lib.hid (fun W => rcheck_any k lo hi p ph W)
  have hok := errS_ok he
  rw [he] at HC
  have hd0 := fun w => dec_any lo h5.2.1 w
  have hz0 := decB_size h5.2.1.1 h5.2.1.2
  have hl0 := decB_list lo
  have hd1 := fun w => dec_any hi h5.2.2.1 w
  have hz1 := decB_size h5.2.2.1.1 h5.2.2.1.2
  have hl1 := decB_list hi
  have hd2 := fun w => dec_any p h5.2.2.2.1 w
  have hz2 := decB_size h5.2.2.2.1.1 h5.2.2.2.1.2
  have hl2 := decB_list p
  have hd3 := fun w => dec_any ph h5.2.2.2.2 w
  have hz3 := decB_size h5.2.2.2.2.1 h5.2.2.2.2.2
  have hl3 := decB_list ph
  obtain ⟨kn, hkn⟩ : ∃ kn : Nat, k = kn := ⟨k.toNat, by omega⟩
  have hlk : (kwB kn).data.toList = kwS kn := by simp [kwB]
  have hzk : (kwB kn).size ≤ 5 := by
    have := kwS_len kn
    rw [← hlk] at this
    exact this
  have hcell : (#[Value.string ⟨#[]⟩, .string ⟨#[102, 108, 97, 116]⟩, .string ⟨#[115, 97, 119]⟩, .string ⟨#[115, 116, 101, 112]⟩, .string ⟨#[112, 117, 108, 115, 101]⟩, .string ⟨#[112, 101, 97, 107]⟩] : Array Value)[kn]? = some (.string (kwB kn)) := by
    have hor : kn = 1 ∨ kn = 2 ∨ kn = 3 ∨ kn = 4 ∨ kn = 5 := by omega
    rcases hor with rfl | rfl | rfl | rfl | rfl <;> rfl
  subst hkn
  have hfin : ((((kwB kn ++ ⟨#[32]⟩ ++ decB lo : ByteArray) ++ ⟨#[32]⟩ ++ decB hi) ++ ⟨#[32]⟩ ++ decB p) ++ ⟨#[32]⟩ ++ decB ph) = shB kn lo hi p ph := shB_of (by
    simp only [app_list, hl0, hl1, hl2, hl3, hlk, shT, shWords, joinS]
    simp)
  have hk6 : (kn : Int) < 6 := by omega
  have HBX := Lib.hid (fun W => Blk.new_at W 23 #[.int .i64 kn, .int .i64 lo, .int .i64 hi, .int .i64 p, .int .i64 ph] (g := W.heap.size) rfl)
  have HB0 := Lib.hid (fun o => sub_alloc (Below.refl _ w) o)
  clear h5 he hok
  generalize decB lo = A0 at *
  generalize decB hi = A1 at *
  generalize decB p = A2 at *
  generalize decB ph = A3 at *
  generalize kwB kn = K0 at *
  have HF := Lib.hid hfin
  clear hfin
  have HD0 := Lib.hid hd0
  clear hd0 hl0
  have HD1 := Lib.hid hd1
  clear hd1 hl1
  have HD2 := Lib.hid hd2
  clear hd2 hl2
  have HD3 := Lib.hid hd3
  clear hd3 hl3 hlk
  have HCELL := Lib.hid hcell
  clear hcell
  have hb0 : ¬ 9223372036854775807 < K0.size + 1 := by omega
  have hb1 : ¬ 9223372036854775807 < K0.size + 1 + A0.size := by omega
  have hb2 : ¬ 9223372036854775807 < K0.size + 1 + A0.size + 1 := by omega
  have hb3 : ¬ 9223372036854775807 < K0.size + 1 + A0.size + 1 + A1.size := by omega
  have hb4 : ¬ 9223372036854775807 < K0.size + 1 + A0.size + 1 + A1.size + 1 := by omega
  have hb5 : ¬ 9223372036854775807 < K0.size + 1 + A0.size + 1 + A1.size + 1 + A2.size := by omega
  have hb6 : ¬ 9223372036854775807 < K0.size + 1 + A0.size + 1 + A1.size + 1 + A2.size + 1 := by omega
  have hb7 : ¬ 9223372036854775807 < K0.size + 1 + A0.size + 1 + A1.size + 1 + A2.size + 1 + A3.size := by omega
  go_enter Tryd.func7, Tryd.ntmps7
  go_wp2_with fail
  refine (HC.out _).mono ?_
  rintro x w1 ⟨rfl, hb⟩
  have h1 := sub_trans (HB0.out _) hb
  have g1 := (HBX.out w).later hb
  clear hb
  have HG := Lib.hid (And.intro h1 g1)
  have c0 := g1.cell 0
  have c1 := g1.cell 1
  have c2 := g1.cell 2
  have c3 := g1.cell 3
  have c4 := g1.cell 4
  simp at c0 c1 c2 c3 c4
  clear h1 g1
  go_wp2
  have hlt1 : w.heap.size < w1.heap.size := HG.out.2.lt
  have H2 : Hid (Below w.heap.size w (w1.alloc (.cells #[.string ⟨#[]⟩, .string ⟨#[102, 108, 97, 116]⟩, .string ⟨#[115, 97, 119]⟩, .string ⟨#[115, 116, 101, 112]⟩, .string ⟨#[112, 117, 108, 115, 101]⟩, .string ⟨#[112, 101, 97, 107]⟩] 9)) ∧ (∀ j v, (#[.int .i64 kn, .int .i64 lo, .int .i64 hi, .int .i64 p, .int .i64 ph] : Array Value)[j]? = some v → (w1.alloc (.cells #[.string ⟨#[]⟩, .string ⟨#[102, 108, 97, 116]⟩, .string ⟨#[115, 97, 119]⟩, .string ⟨#[115, 116, 101, 112]⟩, .string ⟨#[112, 117, 108, 115, 101]⟩, .string ⟨#[112, 101, 97, 107]⟩] 9)).cell? ⟨w.heap.size, j, none⟩ = some v) ∧ (w1.alloc (.cells #[.string ⟨#[]⟩, .string ⟨#[102, 108, 97, 116]⟩, .string ⟨#[115, 97, 119]⟩, .string ⟨#[115, 116, 101, 112]⟩, .string ⟨#[112, 117, 108, 115, 101]⟩, .string ⟨#[112, 101, 97, 107]⟩] 9)).cell? ⟨w1.heap.size, kn, none⟩ = some (.string K0)) :=
    Lib.hid ⟨sub_alloc HG.out.1 _, fun j v hv => ((HG.out.2.alloc _).cell j).trans hv, ((Blk.new_at w1 9 #[.string ⟨#[]⟩, .string ⟨#[102, 108, 97, 116]⟩, .string ⟨#[115, 97, 119]⟩, .string ⟨#[115, 116, 101, 112]⟩, .string ⟨#[112, 117, 108, 115, 101]⟩, .string ⟨#[112, 101, 97, 107]⟩] (g := w1.heap.size) rfl).cell kn).trans HCELL.out⟩
  clear c0 c1 c2 c3 c4 HCELL HBX HB0
  generalize hWA : (w1.alloc (.cells #[.string ⟨#[]⟩, .string ⟨#[102, 108, 97, 116]⟩, .string ⟨#[115, 97, 119]⟩, .string ⟨#[115, 116, 101, 112]⟩, .string ⟨#[112, 117, 108, 115, 101]⟩, .string ⟨#[112, 101, 97, 107]⟩] 9)) = WA at *
  have hS0 : WA.drew = WA.drew := rfl
  refine any_start (S := fun W => W = WA.drew) (by kernel_rfl) hS0 ?_
  simp only [List.length_cons, List.length_nil, Nat.reduceAdd, List.size_toArray]
  refine any_pure 0 (v := ?_) rfl (by kernel_rfl) (by intro _ _ _ h; exact h) (by assumption) (by rfl) (fun W hW => ?_) ?_
  rotate_left
  · first | (go_simp; done) | (go_simp; with_reducible rfl)
  try simp only [Act.put, List.setIfInBounds_toArray, List.set_cons_zero, List.set_cons_succ]
  refine any_pure 1 (v := ?_) rfl (by kernel_rfl) (by intro _ _ _ h; exact h) (by assumption) (by rfl) (fun W hW => ?_) ?_
  rotate_left
  · first | (go_simp; done) | (go_simp; with_reducible rfl)
  try simp only [Act.put, List.setIfInBounds_toArray, List.set_cons_zero, List.set_cons_succ]
  refine any_pure 2 (v := ?_) rfl (by kernel_rfl) (by intro _ _ _ h; exact h) (by assumption) (by rfl) (fun W hW => ?_) ?_
  rotate_left
  · subst hW; have c0 : WA.drew.cell? ⟨w.heap.size, 0, none⟩ = some (.int .i64 kn) := H2.out.2.1 0 _ rfl; first | (go_simp; done) | (go_simp; with_reducible rfl)
  try simp only [Act.put, List.setIfInBounds_toArray, List.set_cons_zero, List.set_cons_succ]
  refine any_pure 3 (v := ?_) rfl (by kernel_rfl) (by intro _ _ _ h; exact h) (by assumption) (by rfl) (fun W hW => ?_) ?_
  rotate_left
  · first | (go_simp; done) | (go_simp; with_reducible rfl)
  try simp only [Act.put, List.setIfInBounds_toArray, List.set_cons_zero, List.set_cons_succ]
  refine any_pure 4 (v := ?_) rfl (by kernel_rfl) (by intro _ _ _ h; exact h) (by assumption) (by rfl) (fun W hW => ?_) ?_
  rotate_left
  · subst hW; have c0 : WA.drew.cell? ⟨w1.heap.size, kn, none⟩ = some (.string K0) := H2.out.2.2; first | (go_simp; done) | (go_simp; with_reducible rfl)
  try simp only [Act.put, List.setIfInBounds_toArray, List.set_cons_zero, List.set_cons_succ]
  refine any_pure 5 (v := ?_) rfl (by kernel_rfl) (by intro _ _ _ h; exact h) (by assumption) (by rfl) (fun W hW => ?_) ?_
  rotate_left
  · first | (go_simp; done) | (go_simp; with_reducible rfl)
  try simp only [Act.put, List.setIfInBounds_toArray, List.set_cons_zero, List.set_cons_succ]
  refine any_pure 6 (v := ?_) rfl (by kernel_rfl) (by intro _ _ _ h; exact h) (by assumption) (by rfl) (fun W hW => ?_) ?_
  rotate_left
  · first | (go_simp; done) | (go_simp; with_reducible rfl)
  try simp only [Act.put, List.setIfInBounds_toArray, List.set_cons_zero, List.set_cons_succ]
  refine any_pure 7 (v := ?_) rfl (by kernel_rfl) (by intro _ _ _ h; exact h) (by assumption) (by rfl) (fun W hW => ?_) ?_
  rotate_left
  · subst hW; have c0 : WA.drew.cell? ⟨w.heap.size, 1, none⟩ = some (.int .i64 lo) := H2.out.2.1 1 _ rfl; first | (go_simp; done) | (go_simp; with_reducible rfl)
  try simp only [Act.put, List.setIfInBounds_toArray, List.set_cons_zero, List.set_cons_succ]
  refine any_call 8 20 #[.int .i64 lo] (.string A0) rfl (by kernel_rfl) (by intro _ _ _ h; exact h) (by assumption) (by rfl) (fun _ => by go_simp) (fun W hW => ?_) ?_
  · exact HD0.out W
  try simp only [Act.put, List.setIfInBounds_toArray, List.set_cons_zero, List.set_cons_succ]
  refine any_pure 9 (v := ?_) rfl (by kernel_rfl) (by intro _ _ _ h; exact h) (by assumption) (by rfl) (fun W hW => ?_) ?_
  rotate_left
  · first | (go_simp; done) | (go_simp; with_reducible rfl)
  try simp only [Act.put, List.setIfInBounds_toArray, List.set_cons_zero, List.set_cons_succ]
  refine any_pure 10 (v := ?_) rfl (by kernel_rfl) (by intro _ _ _ h; exact h) (by assumption) (by rfl) (fun W hW => ?_) ?_
  rotate_left
  · first | (go_simp; done) | (go_simp; with_reducible rfl)
  try simp only [Act.put, List.setIfInBounds_toArray, List.set_cons_zero, List.set_cons_succ]
  refine any_pure 11 (v := ?_) rfl (by kernel_rfl) (by intro _ _ _ h; exact h) (by assumption) (by rfl) (fun W hW => ?_) ?_
  rotate_left
  · first | (go_simp; done) | (go_simp; with_reducible rfl)
  try simp only [Act.put, List.setIfInBounds_toArray, List.set_cons_zero, List.set_cons_succ]
  refine any_pure 12 (v := ?_) rfl (by kernel_rfl) (by intro _ _ _ h; exact h) (by assumption) (by rfl) (fun W hW => ?_) ?_
  rotate_left
  · subst hW; have c0 : WA.drew.cell? ⟨w.heap.size, 2, none⟩ = some (.int .i64 hi) := H2.out.2.1 2 _ rfl; first | (go_simp; done) | (go_simp; with_reducible rfl)
  try simp only [Act.put, List.setIfInBounds_toArray, List.set_cons_zero, List.set_cons_succ]
  refine any_call 13 20 #[.int .i64 hi] (.string A1) rfl (by kernel_rfl) (by intro _ _ _ h; exact h) (by assumption) (by rfl) (fun _ => by go_simp) (fun W hW => ?_) ?_
  · exact HD1.out W
  try simp only [Act.put, List.setIfInBounds_toArray, List.set_cons_zero, List.set_cons_succ]
  refine any_pure 14 (v := ?_) rfl (by kernel_rfl) (by intro _ _ _ h; exact h) (by assumption) (by rfl) (fun W hW => ?_) ?_
  rotate_left
  · first | (go_simp; done) | (go_simp; with_reducible rfl)
  try simp only [Act.put, List.setIfInBounds_toArray, List.set_cons_zero, List.set_cons_succ]
  refine any_pure 15 (v := ?_) rfl (by kernel_rfl) (by intro _ _ _ h; exact h) (by assumption) (by rfl) (fun W hW => ?_) ?_
  rotate_left
  · first | (go_simp; done) | (go_simp; with_reducible rfl)
  try simp only [Act.put, List.setIfInBounds_toArray, List.set_cons_zero, List.set_cons_succ]
  refine any_pure 16 (v := ?_) rfl (by kernel_rfl) (by intro _ _ _ h; exact h) (by assumption) (by rfl) (fun W hW => ?_) ?_
  rotate_left
  · first | (go_simp; done) | (go_simp; with_reducible rfl)
  try simp only [Act.put, List.setIfInBounds_toArray, List.set_cons_zero, List.set_cons_succ]
  refine any_pure 17 (v := ?_) rfl (by kernel_rfl) (by intro _ _ _ h; exact h) (by assumption) (by rfl) (fun W hW => ?_) ?_
  rotate_left
  · subst hW; have c0 : WA.drew.cell? ⟨w.heap.size, 3, none⟩ = some (.int .i64 p) := H2.out.2.1 3 _ rfl; first | (go_simp; done) | (go_simp; with_reducible rfl)
  try simp only [Act.put, List.setIfInBounds_toArray, List.set_cons_zero, List.set_cons_succ]
  refine any_call 18 20 #[.int .i64 p] (.string A2) rfl (by kernel_rfl) (by intro _ _ _ h; exact h) (by assumption) (by rfl) (fun _ => by go_simp) (fun W hW => ?_) ?_
  · exact HD2.out W
  try simp only [Act.put, List.setIfInBounds_toArray, List.set_cons_zero, List.set_cons_succ]
  refine any_pure 19 (v := ?_) rfl (by kernel_rfl) (by intro _ _ _ h; exact h) (by assumption) (by rfl) (fun W hW => ?_) ?_
  rotate_left
  · first | (go_simp; done) | (go_simp; with_reducible rfl)
  try simp only [Act.put, List.setIfInBounds_toArray, List.set_cons_zero, List.set_cons_succ]
  refine any_pure 20 (v := ?_) rfl (by kernel_rfl) (by intro _ _ _ h; exact h) (by assumption) (by rfl) (fun W hW => ?_) ?_
  rotate_left
  · first | (go_simp; done) | (go_simp; with_reducible rfl)
  try simp only [Act.put, List.setIfInBounds_toArray, List.set_cons_zero, List.set_cons_succ]
  refine any_pure 21 (v := ?_) rfl (by kernel_rfl) (by intro _ _ _ h; exact h) (by assumption) (by rfl) (fun W hW => ?_) ?_
  rotate_left
  · first | (go_simp; done) | (go_simp; with_reducible rfl)
  try simp only [Act.put, List.setIfInBounds_toArray, List.set_cons_zero, List.set_cons_succ]
  refine any_pure 22 (v := ?_) rfl (by kernel_rfl) (by intro _ _ _ h; exact h) (by assumption) (by rfl) (fun W hW => ?_) ?_
  rotate_left
  · subst hW; have c0 : WA.drew.cell? ⟨w.heap.size, 4, none⟩ = some (.int .i64 ph) := H2.out.2.1 4 _ rfl; first | (go_simp; done) | (go_simp; with_reducible rfl)
  try simp only [Act.put, List.setIfInBounds_toArray, List.set_cons_zero, List.set_cons_succ]
  refine any_call 23 20 #[.int .i64 ph] (.string A3) rfl (by kernel_rfl) (by intro _ _ _ h; exact h) (by assumption) (by rfl) (fun _ => by go_simp) (fun W hW => ?_) ?_
  · exact HD3.out W
  try simp only [Act.put, List.setIfInBounds_toArray, List.set_cons_zero, List.set_cons_succ]
  refine any_pure 24 (v := ?_) rfl (by kernel_rfl) (by intro _ _ _ h; exact h) (by assumption) (by rfl) (fun W hW => ?_) ?_
  rotate_left
  · first | (go_simp; done) | (go_simp; with_reducible rfl)
  try simp only [Act.put, List.setIfInBounds_toArray, List.set_cons_zero, List.set_cons_succ]
  refine any_pure 25 (v := ?_) rfl (by kernel_rfl) (by intro _ _ _ h; exact h) (by assumption) (by rfl) (fun W hW => ?_) ?_
  rotate_left
  · first | (go_simp; done) | (go_simp; with_reducible rfl)
  try simp only [Act.put, List.setIfInBounds_toArray, List.set_cons_zero, List.set_cons_succ]
  refine any_pure 26 (v := ?_) rfl (by kernel_rfl) (by intro _ _ _ h; exact h) (by assumption) (by rfl) (fun W hW => ?_) ?_
  rotate_left
  · first | (go_simp; done) | (go_simp; with_reducible rfl)
  try simp only [Act.put, List.setIfInBounds_toArray, List.set_cons_zero, List.set_cons_succ]
  refine any_done (by kernel_rfl) ?_
  go_wp2
  exact bodyPost_ret (v := .tuple #[.string (shB kn lo hi p ph), .int .i64 0]) (by simp [results, Tryd.results7, go_sem]; exact HF.out) rfl ⟨rfl, H2.out.1.drew⟩
end Go.Proofs.YtcmnlnnhebdblaaDoor
