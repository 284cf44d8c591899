/-
  The reference's Verb, With and Text walked (chapter 41). Condition: numbers of 64 bits.
-/
import Derived.Test.YteljecehppeamaaGreatDoorJ07
import Derived.Test.YteljecehppeamaaGreatDoorJ08
namespace Go.Proofs.YteljecehppeamaaGreatDoor
open Go.RowKit Go.Fw Go.Shelf
set_option maxHeartbeats 2000000
set_option maxRecDepth 100000
set_option linter.unusedVariables false
set_option linter.unusedSimpArgs false
theorem rverb_any (k : Int) (w : World) : Calls Tryz.prog 45 #[.int .i64 k] w fun x w' => x = .returned (.string (vbB k.toNat)) ∧ Below w.heap.size w w' := by
  have HB := Lib.hid (fun o => sub_alloc (Below.refl _ w) o)
  by_cases h1 : k < 1
  · rw [vbB_out (.inl h1)]
    go_enter Tryz.func45, Tryz.ntmps45
    go_wp2
    go_ret
    exact ⟨rfl, HB.out _⟩
  by_cases h2 : 8 < k
  · rw [vbB_out (.inr h2)]
    go_enter Tryz.func45, Tryz.ntmps45
    go_wp2
    go_ret
    exact ⟨rfl, HB.out _⟩
  obtain ⟨n, rfl⟩ : ∃ n : Nat, k = n := ⟨k.toNat, by omega⟩
  have hx : (w.alloc (.cells verbsA 9)).cell? ⟨w.heap.size, n, none⟩ = some (.string (vbB n)) := ((Blk.new_at w 9 verbsA (g := w.heap.size) rfl).cell n).trans (verbsA_at (by omega))
  rw [Int.toNat_natCast]
  generalize vbB n = V at *
  unfold verbsA at hx
  go_enter Tryz.func45, Tryz.ntmps45
  go_wp2
  go_ret
  exact ⟨rfl, HB.out _⟩
theorem rwith_1 (x : Cl) (w : World) (hk : x.k = 1) (hx : x.ok) : Calls Tryz.prog 33 #[x.val, .string x.id] w fun y w' => y = .returned (.string (lineB x)) ∧ Below w.heap.size w w' := by
  obtain ⟨_, i2, i3, i4, i6, ii⟩ := hx
  have HD3 := Lib.hid (fun W => dec_any x.handle i4 W)
  have hz3 := decB_size i4.1 i4.2
  have hl3 := decB_list x.handle
  have HD1 := Lib.hid (fun W => dec_any x.tick i2 W)
  have hz1 := decB_size i2.1 i2.2
  have hl1 := decB_list x.tick
  have HD2 := Lib.hid (fun W => dec_any x.value i3 W)
  have hz2 := decB_size i3.1 i3.2
  have hl2 := decB_list x.value
  have HD4 := Lib.hid (fun W => poltextr_any x.a x.b x.c x.d x.e x.f i6 W)
  have hz4 := polB_size i6
  have hl4 := polB_list x.a x.b x.c x.d x.e x.f
  have HV := Lib.hid (fun W => rverb_any 1 W)
  generalize decB x.tick = D1 at *
  generalize decB x.value = D2 at *
  generalize decB x.handle = D3 at *
  generalize polB x.a x.b x.c x.d x.e x.f = D4 at *
  have hfin : ((((((⟨#[105, 110, 103, 101, 115, 116, 32]⟩ : ByteArray) ++ x.id) ++ ⟨#[32]⟩) ++ D1) ++ ⟨#[32]⟩) ++ D2) = lineB x := by
    refine bytes_ext ?_
    rw [lineB_list]
    simp only [app_list, hl1, hl2, hl3, hl4]
    simp [lineWs, hk, joinS, vbS]
  have HF := Lib.hid hfin
  have hb0 : ¬ 9223372036854775807 < 7 + x.id.size := by omega
  have hb1 : ¬ 9223372036854775807 < 7 + x.id.size + 1 := by omega
  have hb2 : ¬ 9223372036854775807 < 7 + x.id.size + 1 + D1.size := by omega
  have hb3 : ¬ 9223372036854775807 < 7 + x.id.size + 1 + D1.size + 1 := by omega
  have hb4 : ¬ 9223372036854775807 < 7 + x.id.size + 1 + D1.size + 1 + D2.size := by omega
  clear hfin hl1 hl2 hl3 hl4 hz1 hz2 hz3 hz4 i2 i3 i4 i6
  have HB := Lib.hid (fun o => sub_alloc (Below.refl _ w) o)
  have HG := Lib.hid (Blk.new_at w 50 x.arr (g := w.heap.size) rfl)
  unfold Cl.val Cl.arr at *
  rw [hk] at *
  clear hk
  have c0 := HG.out.cell 0
  have c1 := HG.out.cell 1
  have c2 := HG.out.cell 2
  have c3 := HG.out.cell 3
  have c4 := HG.out.cell 4
  have c5 := HG.out.cell 5
  have c6 := HG.out.cell 6
  have c7 := HG.out.cell 7
  have c8 := HG.out.cell 8
  have c9 := HG.out.cell 9
  have c10 := HG.out.cell 10
  simp at c0 c1 c2 c3 c4 c5 c6 c7 c8 c9 c10
  go_enter Tryz.func33, Tryz.ntmps33
  go_wp2_with fail
  refine (HD3.out _).mono ?_
  rintro y w1 ⟨rfl, rfl⟩
  go_wp2
  have HBW := HB.out (.cells #[.int .i64 1, .string x.id, .int .i64 x.tick, .int .i64 x.value, .int .i64 x.handle, .int .i64 x.a, .int .i64 x.b, .int .i64 x.c, .int .i64 x.d, .int .i64 x.e, .int .i64 x.f] 50)
  clear c0 c1 c2 c3 c4 c5 c6 c7 c8 c9 c10
  generalize w.alloc (.cells #[.int .i64 1, .string x.id, .int .i64 x.tick, .int .i64 x.value, .int .i64 x.handle, .int .i64 x.a, .int .i64 x.b, .int .i64 x.c, .int .i64 x.d, .int .i64 x.e, .int .i64 x.f] 50) = WA at *
  have hS0 : WA.drew = WA.drew := rfl
  refine any_start (S := fun W => W = WA.drew) (by kernel_rfl) hS0 ?_
  simp only [List.length_cons, List.length_nil, Nat.reduceAdd, List.size_toArray]
  refine any_pure 0 (v := ?_) rfl (by kernel_rfl) (by intro _ _ _ h; exact h) (by assumption) (by rfl) (fun W hW => ?_) ?_
  rotate_left
  · first | (go_simp; done) | (go_simp; with_reducible rfl)
  try simp only [Act.put, List.setIfInBounds_toArray, List.set_cons_zero, List.set_cons_succ]
  refine any_pure 1 (v := ?_) rfl (by kernel_rfl) (by intro _ _ _ h; exact h) (by assumption) (by rfl) (fun W hW => ?_) ?_
  rotate_left
  · first | (go_simp; done) | (go_simp; with_reducible rfl)
  try simp only [Act.put, List.setIfInBounds_toArray, List.set_cons_zero, List.set_cons_succ]
  refine any_pure 2 (v := ?_) rfl (by kernel_rfl) (by intro _ _ _ h; exact h) (by assumption) (by rfl) (fun W hW => ?_) ?_
  rotate_left
  · first | (go_simp; done) | (go_simp; with_reducible rfl)
  try simp only [Act.put, List.setIfInBounds_toArray, List.set_cons_zero, List.set_cons_succ]
  refine any_pure 3 (v := ?_) rfl (by kernel_rfl) (by intro _ _ _ h; exact h) (by assumption) (by rfl) (fun W hW => ?_) ?_
  rotate_left
  · first | (go_simp; done) | (go_simp; with_reducible rfl)
  try simp only [Act.put, List.setIfInBounds_toArray, List.set_cons_zero, List.set_cons_succ]
  refine any_pure 4 (v := ?_) rfl (by kernel_rfl) (by intro _ _ _ h; exact h) (by assumption) (by rfl) (fun W hW => ?_) ?_
  rotate_left
  · subst hW; have c2 := (HG.out.drew).cell 2; simp at c2; first | (go_simp; done) | (go_simp; with_reducible rfl)
  try simp only [Act.put, List.setIfInBounds_toArray, List.set_cons_zero, List.set_cons_succ]
  refine any_call 5 34 #[.int .i64 x.tick] (.string D1) rfl (by kernel_rfl) (by intro _ _ _ h; exact h) (by assumption) (by rfl) (fun _ => by go_simp) (fun W hW => ?_) ?_
  · exact HD1.out W
  try simp only [Act.put, List.setIfInBounds_toArray, List.set_cons_zero, List.set_cons_succ]
  refine any_pure 6 (v := ?_) rfl (by kernel_rfl) (by intro _ _ _ h; exact h) (by assumption) (by rfl) (fun W hW => ?_) ?_
  rotate_left
  · first | (go_simp; done) | (go_simp; with_reducible rfl)
  try simp only [Act.put, List.setIfInBounds_toArray, List.set_cons_zero, List.set_cons_succ]
  refine any_pure 7 (v := ?_) rfl (by kernel_rfl) (by intro _ _ _ h; exact h) (by assumption) (by rfl) (fun W hW => ?_) ?_
  rotate_left
  · first | (go_simp; done) | (go_simp; with_reducible rfl)
  try simp only [Act.put, List.setIfInBounds_toArray, List.set_cons_zero, List.set_cons_succ]
  refine any_pure 8 (v := ?_) rfl (by kernel_rfl) (by intro _ _ _ h; exact h) (by assumption) (by rfl) (fun W hW => ?_) ?_
  rotate_left
  · first | (go_simp; done) | (go_simp; with_reducible rfl)
  try simp only [Act.put, List.setIfInBounds_toArray, List.set_cons_zero, List.set_cons_succ]
  refine any_pure 9 (v := ?_) rfl (by kernel_rfl) (by intro _ _ _ h; exact h) (by assumption) (by rfl) (fun W hW => ?_) ?_
  rotate_left
  · subst hW; have c3 := (HG.out.drew).cell 3; simp at c3; first | (go_simp; done) | (go_simp; with_reducible rfl)
  try simp only [Act.put, List.setIfInBounds_toArray, List.set_cons_zero, List.set_cons_succ]
  refine any_call 10 34 #[.int .i64 x.value] (.string D2) rfl (by kernel_rfl) (by intro _ _ _ h; exact h) (by assumption) (by rfl) (fun _ => by go_simp) (fun W hW => ?_) ?_
  · exact HD2.out W
  try simp only [Act.put, List.setIfInBounds_toArray, List.set_cons_zero, List.set_cons_succ]
  refine any_pure 11 (v := ?_) rfl (by kernel_rfl) (by intro _ _ _ h; exact h) (by assumption) (by rfl) (fun W hW => ?_) ?_
  rotate_left
  · first | (go_simp; done) | (go_simp; with_reducible rfl)
  try simp only [Act.put, List.setIfInBounds_toArray, List.set_cons_zero, List.set_cons_succ]
  refine any_pure 12 (v := ?_) rfl (by kernel_rfl) (by intro _ _ _ h; exact h) (by assumption) (by rfl) (fun W hW => ?_) ?_
  rotate_left
  · first | (go_simp; done) | (go_simp; with_reducible rfl)
  try simp only [Act.put, List.setIfInBounds_toArray, List.set_cons_zero, List.set_cons_succ]
  refine any_done (by kernel_rfl) ?_
  go_wp2
  go_ret
  exact ⟨ret_s HF.out, HBW.drew⟩
theorem rwith_2 (x : Cl) (w : World) (hk : x.k = 2) (hx : x.ok) : Calls Tryz.prog 33 #[x.val, .string x.id] w fun y w' => y = .returned (.string (lineB x)) ∧ Below w.heap.size w w' := by
  obtain ⟨_, i2, i3, i4, i6, ii⟩ := hx
  have HD3 := Lib.hid (fun W => dec_any x.handle i4 W)
  have hz3 := decB_size i4.1 i4.2
  have hl3 := decB_list x.handle
  have HD1 := Lib.hid (fun W => dec_any x.tick i2 W)
  have hz1 := decB_size i2.1 i2.2
  have hl1 := decB_list x.tick
  have HD2 := Lib.hid (fun W => dec_any x.value i3 W)
  have hz2 := decB_size i3.1 i3.2
  have hl2 := decB_list x.value
  have HD4 := Lib.hid (fun W => poltextr_any x.a x.b x.c x.d x.e x.f i6 W)
  have hz4 := polB_size i6
  have hl4 := polB_list x.a x.b x.c x.d x.e x.f
  have HV := Lib.hid (fun W => rverb_any 2 W)
  generalize decB x.tick = D1 at *
  generalize decB x.value = D2 at *
  generalize decB x.handle = D3 at *
  generalize polB x.a x.b x.c x.d x.e x.f = D4 at *
  have hfin : ((⟨#[116, 114, 105, 109, 32]⟩ : ByteArray) ++ D1) = lineB x := by
    refine bytes_ext ?_
    rw [lineB_list]
    simp only [app_list, hl1, hl2, hl3, hl4]
    simp [lineWs, hk, joinS, vbS]
  have HF := Lib.hid hfin
  have hb0 : ¬ 9223372036854775807 < 5 + D1.size := by omega
  clear hfin hl1 hl2 hl3 hl4 hz1 hz2 hz3 hz4 i2 i3 i4 i6
  have HB := Lib.hid (fun o => sub_alloc (Below.refl _ w) o)
  have HG := Lib.hid (Blk.new_at w 50 x.arr (g := w.heap.size) rfl)
  unfold Cl.val Cl.arr at *
  rw [hk] at *
  clear hk
  have c0 := HG.out.cell 0
  have c1 := HG.out.cell 1
  have c2 := HG.out.cell 2
  have c3 := HG.out.cell 3
  have c4 := HG.out.cell 4
  have c5 := HG.out.cell 5
  have c6 := HG.out.cell 6
  have c7 := HG.out.cell 7
  have c8 := HG.out.cell 8
  have c9 := HG.out.cell 9
  have c10 := HG.out.cell 10
  simp at c0 c1 c2 c3 c4 c5 c6 c7 c8 c9 c10
  go_enter Tryz.func33, Tryz.ntmps33
  go_wp2_with fail
  refine (HD3.out _).mono ?_
  rintro y w1 ⟨rfl, rfl⟩
  go_wp2_with fail
  refine (HD1.out _).mono ?_
  rintro y w1 ⟨rfl, rfl⟩
  go_wp2
  go_ret
  exact ⟨ret_s HF.out, HB.out _⟩
theorem rwith_4 (x : Cl) (w : World) (hk : x.k = 4) (hx : x.ok) : Calls Tryz.prog 33 #[x.val, .string x.id] w fun y w' => y = .returned (.string (lineB x)) ∧ Below w.heap.size w w' := by
  obtain ⟨_, i2, i3, i4, i6, ii⟩ := hx
  have HD3 := Lib.hid (fun W => dec_any x.handle i4 W)
  have hz3 := decB_size i4.1 i4.2
  have hl3 := decB_list x.handle
  have HD1 := Lib.hid (fun W => dec_any x.tick i2 W)
  have hz1 := decB_size i2.1 i2.2
  have hl1 := decB_list x.tick
  have HD2 := Lib.hid (fun W => dec_any x.value i3 W)
  have hz2 := decB_size i3.1 i3.2
  have hl2 := decB_list x.value
  have HD4 := Lib.hid (fun W => poltextr_any x.a x.b x.c x.d x.e x.f i6 W)
  have hz4 := polB_size i6
  have hl4 := polB_list x.a x.b x.c x.d x.e x.f
  have HV := Lib.hid (fun W => rverb_any 4 W)
  generalize decB x.tick = D1 at *
  generalize decB x.value = D2 at *
  generalize decB x.handle = D3 at *
  generalize polB x.a x.b x.c x.d x.e x.f = D4 at *
  have hfin : ((⟨#[102, 114, 101, 101, 32]⟩ : ByteArray) ++ D3) = lineB x := by
    refine bytes_ext ?_
    rw [lineB_list]
    simp only [app_list, hl1, hl2, hl3, hl4]
    simp [lineWs, hk, joinS, vbS]
  have HF := Lib.hid hfin
  have hb0 : ¬ 9223372036854775807 < 5 + D3.size := by omega
  clear hfin hl1 hl2 hl3 hl4 hz1 hz2 hz3 hz4 i2 i3 i4 i6
  have HB := Lib.hid (fun o => sub_alloc (Below.refl _ w) o)
  have HG := Lib.hid (Blk.new_at w 50 x.arr (g := w.heap.size) rfl)
  unfold Cl.val Cl.arr at *
  rw [hk] at *
  clear hk
  have c0 := HG.out.cell 0
  have c1 := HG.out.cell 1
  have c2 := HG.out.cell 2
  have c3 := HG.out.cell 3
  have c4 := HG.out.cell 4
  have c5 := HG.out.cell 5
  have c6 := HG.out.cell 6
  have c7 := HG.out.cell 7
  have c8 := HG.out.cell 8
  have c9 := HG.out.cell 9
  have c10 := HG.out.cell 10
  simp at c0 c1 c2 c3 c4 c5 c6 c7 c8 c9 c10
  go_enter Tryz.func33, Tryz.ntmps33
  go_wp2_with fail
  refine (HD3.out _).mono ?_
  rintro y w1 ⟨rfl, rfl⟩
  go_wp2
  go_ret
  exact ⟨ret_s HF.out, HB.out _⟩
theorem rwith_5 (x : Cl) (w : World) (hk : x.k = 5) (hx : x.ok) : Calls Tryz.prog 33 #[x.val, .string x.id] w fun y w' => y = .returned (.string (lineB x)) ∧ Below w.heap.size w w' := by
  obtain ⟨_, i2, i3, i4, i6, ii⟩ := hx
  have HD3 := Lib.hid (fun W => dec_any x.handle i4 W)
  have hz3 := decB_size i4.1 i4.2
  have hl3 := decB_list x.handle
  have HD1 := Lib.hid (fun W => dec_any x.tick i2 W)
  have hz1 := decB_size i2.1 i2.2
  have hl1 := decB_list x.tick
  have HD2 := Lib.hid (fun W => dec_any x.value i3 W)
  have hz2 := decB_size i3.1 i3.2
  have hl2 := decB_list x.value
  have HD4 := Lib.hid (fun W => poltextr_any x.a x.b x.c x.d x.e x.f i6 W)
  have hz4 := polB_size i6
  have hl4 := polB_list x.a x.b x.c x.d x.e x.f
  have HV := Lib.hid (fun W => rverb_any 5 W)
  generalize decB x.tick = D1 at *
  generalize decB x.value = D2 at *
  generalize decB x.handle = D3 at *
  generalize polB x.a x.b x.c x.d x.e x.f = D4 at *
  have hfin : ((((((((⟨#[108, 111, 111, 107, 32]⟩ : ByteArray) ++ D3) ++ ⟨#[32]⟩) ++ x.id) ++ ⟨#[32]⟩) ++ D1) ++ ⟨#[32]⟩) ++ D2) = lineB x := by
    refine bytes_ext ?_
    rw [lineB_list]
    simp only [app_list, hl1, hl2, hl3, hl4]
    simp [lineWs, hk, joinS, vbS]
  have HF := Lib.hid hfin
  have hb0 : ¬ 9223372036854775807 < 5 + D3.size := by omega
  have hb1 : ¬ 9223372036854775807 < 5 + D3.size + 1 := by omega
  have hb2 : ¬ 9223372036854775807 < 5 + D3.size + 1 + x.id.size := by omega
  have hb3 : ¬ 9223372036854775807 < 5 + D3.size + 1 + x.id.size + 1 := by omega
  have hb4 : ¬ 9223372036854775807 < 5 + D3.size + 1 + x.id.size + 1 + D1.size := by omega
  have hb5 : ¬ 9223372036854775807 < 5 + D3.size + 1 + x.id.size + 1 + D1.size + 1 := by omega
  have hb6 : ¬ 9223372036854775807 < 5 + D3.size + 1 + x.id.size + 1 + D1.size + 1 + D2.size := by omega
  clear hfin hl1 hl2 hl3 hl4 hz1 hz2 hz3 hz4 i2 i3 i4 i6
  have HB := Lib.hid (fun o => sub_alloc (Below.refl _ w) o)
  have HG := Lib.hid (Blk.new_at w 50 x.arr (g := w.heap.size) rfl)
  unfold Cl.val Cl.arr at *
  rw [hk] at *
  clear hk
  have c0 := HG.out.cell 0
  have c1 := HG.out.cell 1
  have c2 := HG.out.cell 2
  have c3 := HG.out.cell 3
  have c4 := HG.out.cell 4
  have c5 := HG.out.cell 5
  have c6 := HG.out.cell 6
  have c7 := HG.out.cell 7
  have c8 := HG.out.cell 8
  have c9 := HG.out.cell 9
  have c10 := HG.out.cell 10
  simp at c0 c1 c2 c3 c4 c5 c6 c7 c8 c9 c10
  go_enter Tryz.func33, Tryz.ntmps33
  go_wp2_with fail
  refine (HD3.out _).mono ?_
  rintro y w1 ⟨rfl, rfl⟩
  go_wp2
  have HBW := HB.out (.cells #[.int .i64 5, .string x.id, .int .i64 x.tick, .int .i64 x.value, .int .i64 x.handle, .int .i64 x.a, .int .i64 x.b, .int .i64 x.c, .int .i64 x.d, .int .i64 x.e, .int .i64 x.f] 50)
  clear c0 c1 c2 c3 c4 c5 c6 c7 c8 c9 c10
  generalize w.alloc (.cells #[.int .i64 5, .string x.id, .int .i64 x.tick, .int .i64 x.value, .int .i64 x.handle, .int .i64 x.a, .int .i64 x.b, .int .i64 x.c, .int .i64 x.d, .int .i64 x.e, .int .i64 x.f] 50) = WA at *
  have hS0 : WA.drew = WA.drew := rfl
  refine any_start (S := fun W => W = WA.drew) (by kernel_rfl) hS0 ?_
  simp only [List.length_cons, List.length_nil, Nat.reduceAdd, List.size_toArray]
  refine any_pure 0 (v := ?_) rfl (by kernel_rfl) (by intro _ _ _ h; exact h) (by assumption) (by rfl) (fun W hW => ?_) ?_
  rotate_left
  · first | (go_simp; done) | (go_simp; with_reducible rfl)
  try simp only [Act.put, List.setIfInBounds_toArray, List.set_cons_zero, List.set_cons_succ]
  refine any_pure 1 (v := ?_) rfl (by kernel_rfl) (by intro _ _ _ h; exact h) (by assumption) (by rfl) (fun W hW => ?_) ?_
  rotate_left
  · first | (go_simp; done) | (go_simp; with_reducible rfl)
  try simp only [Act.put, List.setIfInBounds_toArray, List.set_cons_zero, List.set_cons_succ]
  refine any_pure 2 (v := ?_) rfl (by kernel_rfl) (by intro _ _ _ h; exact h) (by assumption) (by rfl) (fun W hW => ?_) ?_
  rotate_left
  · first | (go_simp; done) | (go_simp; with_reducible rfl)
  try simp only [Act.put, List.setIfInBounds_toArray, List.set_cons_zero, List.set_cons_succ]
  refine any_pure 3 (v := ?_) rfl (by kernel_rfl) (by intro _ _ _ h; exact h) (by assumption) (by rfl) (fun W hW => ?_) ?_
  rotate_left
  · first | (go_simp; done) | (go_simp; with_reducible rfl)
  try simp only [Act.put, List.setIfInBounds_toArray, List.set_cons_zero, List.set_cons_succ]
  refine any_pure 4 (v := ?_) rfl (by kernel_rfl) (by intro _ _ _ h; exact h) (by assumption) (by rfl) (fun W hW => ?_) ?_
  rotate_left
  · first | (go_simp; done) | (go_simp; with_reducible rfl)
  try simp only [Act.put, List.setIfInBounds_toArray, List.set_cons_zero, List.set_cons_succ]
  refine any_pure 5 (v := ?_) rfl (by kernel_rfl) (by intro _ _ _ h; exact h) (by assumption) (by rfl) (fun W hW => ?_) ?_
  rotate_left
  · first | (go_simp; done) | (go_simp; with_reducible rfl)
  try simp only [Act.put, List.setIfInBounds_toArray, List.set_cons_zero, List.set_cons_succ]
  refine any_pure 6 (v := ?_) rfl (by kernel_rfl) (by intro _ _ _ h; exact h) (by assumption) (by rfl) (fun W hW => ?_) ?_
  rotate_left
  · first | (go_simp; done) | (go_simp; with_reducible rfl)
  try simp only [Act.put, List.setIfInBounds_toArray, List.set_cons_zero, List.set_cons_succ]
  refine any_pure 7 (v := ?_) rfl (by kernel_rfl) (by intro _ _ _ h; exact h) (by assumption) (by rfl) (fun W hW => ?_) ?_
  rotate_left
  · subst hW; have c2 := (HG.out.drew).cell 2; simp at c2; first | (go_simp; done) | (go_simp; with_reducible rfl)
  try simp only [Act.put, List.setIfInBounds_toArray, List.set_cons_zero, List.set_cons_succ]
  refine any_call 8 34 #[.int .i64 x.tick] (.string D1) rfl (by kernel_rfl) (by intro _ _ _ h; exact h) (by assumption) (by rfl) (fun _ => by go_simp) (fun W hW => ?_) ?_
  · exact HD1.out W
  try simp only [Act.put, List.setIfInBounds_toArray, List.set_cons_zero, List.set_cons_succ]
  refine any_pure 9 (v := ?_) rfl (by kernel_rfl) (by intro _ _ _ h; exact h) (by assumption) (by rfl) (fun W hW => ?_) ?_
  rotate_left
  · first | (go_simp; done) | (go_simp; with_reducible rfl)
  try simp only [Act.put, List.setIfInBounds_toArray, List.set_cons_zero, List.set_cons_succ]
  refine any_pure 10 (v := ?_) rfl (by kernel_rfl) (by intro _ _ _ h; exact h) (by assumption) (by rfl) (fun W hW => ?_) ?_
  rotate_left
  · first | (go_simp; done) | (go_simp; with_reducible rfl)
  try simp only [Act.put, List.setIfInBounds_toArray, List.set_cons_zero, List.set_cons_succ]
  refine any_pure 11 (v := ?_) rfl (by kernel_rfl) (by intro _ _ _ h; exact h) (by assumption) (by rfl) (fun W hW => ?_) ?_
  rotate_left
  · first | (go_simp; done) | (go_simp; with_reducible rfl)
  try simp only [Act.put, List.setIfInBounds_toArray, List.set_cons_zero, List.set_cons_succ]
  refine any_pure 12 (v := ?_) rfl (by kernel_rfl) (by intro _ _ _ h; exact h) (by assumption) (by rfl) (fun W hW => ?_) ?_
  rotate_left
  · subst hW; have c3 := (HG.out.drew).cell 3; simp at c3; first | (go_simp; done) | (go_simp; with_reducible rfl)
  try simp only [Act.put, List.setIfInBounds_toArray, List.set_cons_zero, List.set_cons_succ]
  refine any_call 13 34 #[.int .i64 x.value] (.string D2) rfl (by kernel_rfl) (by intro _ _ _ h; exact h) (by assumption) (by rfl) (fun _ => by go_simp) (fun W hW => ?_) ?_
  · exact HD2.out W
  try simp only [Act.put, List.setIfInBounds_toArray, List.set_cons_zero, List.set_cons_succ]
  refine any_pure 14 (v := ?_) rfl (by kernel_rfl) (by intro _ _ _ h; exact h) (by assumption) (by rfl) (fun W hW => ?_) ?_
  rotate_left
  · first | (go_simp; done) | (go_simp; with_reducible rfl)
  try simp only [Act.put, List.setIfInBounds_toArray, List.set_cons_zero, List.set_cons_succ]
  refine any_pure 15 (v := ?_) rfl (by kernel_rfl) (by intro _ _ _ h; exact h) (by assumption) (by rfl) (fun W hW => ?_) ?_
  rotate_left
  · first | (go_simp; done) | (go_simp; with_reducible rfl)
  try simp only [Act.put, List.setIfInBounds_toArray, List.set_cons_zero, List.set_cons_succ]
  refine any_done (by kernel_rfl) ?_
  go_wp2
  go_ret
  exact ⟨ret_s HF.out, HBW.drew⟩
theorem rwith_6 (x : Cl) (w : World) (hk : x.k = 6) (hx : x.ok) : Calls Tryz.prog 33 #[x.val, .string x.id] w fun y w' => y = .returned (.string (lineB x)) ∧ Below w.heap.size w w' := by
  obtain ⟨_, i2, i3, i4, i6, ii⟩ := hx
  have HD3 := Lib.hid (fun W => dec_any x.handle i4 W)
  have hz3 := decB_size i4.1 i4.2
  have hl3 := decB_list x.handle
  have HD1 := Lib.hid (fun W => dec_any x.tick i2 W)
  have hz1 := decB_size i2.1 i2.2
  have hl1 := decB_list x.tick
  have HD2 := Lib.hid (fun W => dec_any x.value i3 W)
  have hz2 := decB_size i3.1 i3.2
  have hl2 := decB_list x.value
  have HD4 := Lib.hid (fun W => poltextr_any x.a x.b x.c x.d x.e x.f i6 W)
  have hz4 := polB_size i6
  have hl4 := polB_list x.a x.b x.c x.d x.e x.f
  have HV := Lib.hid (fun W => rverb_any 6 W)
  generalize decB x.tick = D1 at *
  generalize decB x.value = D2 at *
  generalize decB x.handle = D3 at *
  generalize polB x.a x.b x.c x.d x.e x.f = D4 at *
  have hfin : ((((⟨#[115, 101, 116, 32]⟩ : ByteArray) ++ x.id) ++ ⟨#[32]⟩) ++ D4) = lineB x := by
    refine bytes_ext ?_
    rw [lineB_list]
    simp only [app_list, hl1, hl2, hl3, hl4]
    have hj := joinS_flat 32 (polWords x.a x.b x.c x.d x.e x.f) (by simp [polWords])
    simp [lineWs, hk, joinS, vbS, hj, polT]
  have HF := Lib.hid hfin
  have hb0 : ¬ 9223372036854775807 < 4 + x.id.size := by omega
  have hb1 : ¬ 9223372036854775807 < 4 + x.id.size + 1 := by omega
  have hb2 : ¬ 9223372036854775807 < 4 + x.id.size + 1 + D4.size := by omega
  clear hfin hl1 hl2 hl3 hl4 hz1 hz2 hz3 hz4 i2 i3 i4 i6
  have HB := Lib.hid (fun o => sub_alloc (Below.refl _ w) o)
  have HG := Lib.hid (Blk.new_at w 50 x.arr (g := w.heap.size) rfl)
  unfold Cl.val Cl.arr at *
  rw [hk] at *
  clear hk
  have c0 := HG.out.cell 0
  have c1 := HG.out.cell 1
  have c2 := HG.out.cell 2
  have c3 := HG.out.cell 3
  have c4 := HG.out.cell 4
  have c5 := HG.out.cell 5
  have c6 := HG.out.cell 6
  have c7 := HG.out.cell 7
  have c8 := HG.out.cell 8
  have c9 := HG.out.cell 9
  have c10 := HG.out.cell 10
  simp at c0 c1 c2 c3 c4 c5 c6 c7 c8 c9 c10
  go_enter Tryz.func33, Tryz.ntmps33
  go_wp2_with fail
  refine (HD3.out _).mono ?_
  rintro y w1 ⟨rfl, rfl⟩
  go_wp2_with fail
  refine (HD4.out _).mono ?_
  rintro y w1 ⟨rfl, hb⟩
  have h2 := sub_trans (HB.out _) hb
  clear hb
  go_wp2
  go_ret
  exact ⟨ret_s HF.out, h2⟩
theorem rwith_7 (x : Cl) (w : World) (hk : x.k = 7) (hx : x.ok) : Calls Tryz.prog 33 #[x.val, .string x.id] w fun y w' => y = .returned (.string (lineB x)) ∧ Below w.heap.size w w' := by
  obtain ⟨_, i2, i3, i4, i6, ii⟩ := hx
  have HD3 := Lib.hid (fun W => dec_any x.handle i4 W)
  have hz3 := decB_size i4.1 i4.2
  have hl3 := decB_list x.handle
  have HD1 := Lib.hid (fun W => dec_any x.tick i2 W)
  have hz1 := decB_size i2.1 i2.2
  have hl1 := decB_list x.tick
  have HD2 := Lib.hid (fun W => dec_any x.value i3 W)
  have hz2 := decB_size i3.1 i3.2
  have hl2 := decB_list x.value
  have HD4 := Lib.hid (fun W => poltextr_any x.a x.b x.c x.d x.e x.f i6 W)
  have hz4 := polB_size i6
  have hl4 := polB_list x.a x.b x.c x.d x.e x.f
  have HV := Lib.hid (fun W => rverb_any 7 W)
  generalize decB x.tick = D1 at *
  generalize decB x.value = D2 at *
  generalize decB x.handle = D3 at *
  generalize polB x.a x.b x.c x.d x.e x.f = D4 at *
  have hfin : ((⟨#[114, 101, 97, 100, 32]⟩ : ByteArray) ++ x.id) = lineB x := by
    refine bytes_ext ?_
    rw [lineB_list]
    simp only [app_list, hl1, hl2, hl3, hl4]
    simp [lineWs, hk, joinS, vbS]
  have HF := Lib.hid hfin
  have hb0 : ¬ 9223372036854775807 < 5 + x.id.size := by omega
  clear hfin hl1 hl2 hl3 hl4 hz1 hz2 hz3 hz4 i2 i3 i4 i6
  have HB := Lib.hid (fun o => sub_alloc (Below.refl _ w) o)
  have HG := Lib.hid (Blk.new_at w 50 x.arr (g := w.heap.size) rfl)
  unfold Cl.val Cl.arr at *
  rw [hk] at *
  clear hk
  have c0 := HG.out.cell 0
  have c1 := HG.out.cell 1
  have c2 := HG.out.cell 2
  have c3 := HG.out.cell 3
  have c4 := HG.out.cell 4
  have c5 := HG.out.cell 5
  have c6 := HG.out.cell 6
  have c7 := HG.out.cell 7
  have c8 := HG.out.cell 8
  have c9 := HG.out.cell 9
  have c10 := HG.out.cell 10
  simp at c0 c1 c2 c3 c4 c5 c6 c7 c8 c9 c10
  go_enter Tryz.func33, Tryz.ntmps33
  go_wp2_with fail
  refine (HD3.out _).mono ?_
  rintro y w1 ⟨rfl, rfl⟩
  go_wp2
  go_ret
  exact ⟨ret_s HF.out, HB.out _⟩
theorem rwith_0 (x : Cl) (w : World) (hk : x.k ≠ 1 ∧ x.k ≠ 2 ∧ x.k ≠ 4 ∧ x.k ≠ 5 ∧ x.k ≠ 6 ∧ x.k ≠ 7) (hx : x.ok) : Calls Tryz.prog 33 #[x.val, .string x.id] w fun y w' => y = .returned (.string (lineB x)) ∧ Below w.heap.size w w' := by
  obtain ⟨_, i2, i3, i4, i6, ii⟩ := hx
  have HD3 := Lib.hid (fun W => dec_any x.handle i4 W)
  have hz3 := decB_size i4.1 i4.2
  have hl3 := decB_list x.handle
  have HD1 := Lib.hid (fun W => dec_any x.tick i2 W)
  have hz1 := decB_size i2.1 i2.2
  have hl1 := decB_list x.tick
  have HD2 := Lib.hid (fun W => dec_any x.value i3 W)
  have hz2 := decB_size i3.1 i3.2
  have hl2 := decB_list x.value
  have HD4 := Lib.hid (fun W => poltextr_any x.a x.b x.c x.d x.e x.f i6 W)
  have hz4 := polB_size i6
  have hl4 := polB_list x.a x.b x.c x.d x.e x.f
  have HV := Lib.hid (fun W => rverb_any x.k W)
  generalize decB x.tick = D1 at *
  generalize decB x.value = D2 at *
  generalize decB x.handle = D3 at *
  generalize polB x.a x.b x.c x.d x.e x.f = D4 at *
  have hfin : vbB x.k.toNat = lineB x := by
    refine bytes_ext ?_
    rw [lineB_list, vbB_list]
    obtain ⟨k1, k2, k4, k5, k6, k7⟩ := hk
    simp [lineWs, k1, k2, k4, k5, k6, k7, joinS]
  have HF := Lib.hid hfin
  obtain ⟨k1, k2, k4, k5, k6, k7⟩ := hk
  have e1 : (x.k == 1) = false := by simpa using k1
  have e2 : (x.k == 2) = false := by simpa using k2
  have e4 : (x.k == 4) = false := by simpa using k4
  have e5 : (x.k == 5) = false := by simpa using k5
  have e6 : (x.k == 6) = false := by simpa using k6
  have e7 : (x.k == 7) = false := by simpa using k7
  clear k1 k2 k4 k5 k6 k7
  clear hfin hl1 hl2 hl3 hl4 hz1 hz2 hz3 hz4 i2 i3 i4 i6
  have HB := Lib.hid (fun o => sub_alloc (Below.refl _ w) o)
  have HG := Lib.hid (Blk.new_at w 50 x.arr (g := w.heap.size) rfl)
  unfold Cl.val Cl.arr at *
  have c0 := HG.out.cell 0
  have c1 := HG.out.cell 1
  have c2 := HG.out.cell 2
  have c3 := HG.out.cell 3
  have c4 := HG.out.cell 4
  have c5 := HG.out.cell 5
  have c6 := HG.out.cell 6
  have c7 := HG.out.cell 7
  have c8 := HG.out.cell 8
  have c9 := HG.out.cell 9
  have c10 := HG.out.cell 10
  simp at c0 c1 c2 c3 c4 c5 c6 c7 c8 c9 c10
  go_enter Tryz.func33, Tryz.ntmps33
  go_wp2_with fail
  refine (HD3.out _).mono ?_
  rintro y w1 ⟨rfl, rfl⟩
  go_wp2_with fail
  refine (HV.out _).mono ?_
  rintro y w1 ⟨rfl, hb⟩
  have h2 := sub_trans (HB.out _) hb
  clear hb
  go_wp2
  go_ret
  exact ⟨ret_s HF.out, h2⟩
theorem rwith_any (x : Cl) (w : World) (hx : x.ok) : Calls Tryz.prog 33 #[x.val, .string x.id] w fun y w' => y = .returned (.string (lineB x)) ∧ Below w.heap.size w w' := by
  by_cases h1 : x.k = 1
  · exact rwith_1 x w h1 hx
  by_cases h2 : x.k = 2
  · exact rwith_2 x w h2 hx
  by_cases h4 : x.k = 4
  · exact rwith_4 x w h4 hx
  by_cases h5 : x.k = 5
  · exact rwith_5 x w h5 hx
  by_cases h6 : x.k = 6
  · exact rwith_6 x w h6 hx
  by_cases h7 : x.k = 7
  · exact rwith_7 x w h7 hx
  exact rwith_0 x w ⟨h1, h2, h4, h5, h6, h7⟩ hx
theorem rltext_any (x : Cl) (w : World) (hx : x.ok) :
    Calls Tryz.prog 28 #[x.val] w fun y w' => y = .returned (.tuple #[.string (textB x), .int .i64 (textE x)]) ∧ Below w.heap.size w w' := by
  have HB := Lib.hid (fun o => sub_alloc (Below.refl _ w) o)
  have HG := Lib.hid (Blk.new_at w 50 x.arr (g := w.heap.size) rfl)
  have HN := Lib.hid (fun W => rnamed_any x.k W)
  have HV := Lib.hid (fun W => rverb_any x.k W)
  have HI := Lib.hid (fun W => id_any x.id hx.idm W)
  have HW := Lib.hid (fun W => rwith_any x W hx)
  unfold Cl.val Cl.arr at *
  have c0 := HG.out.cell 0
  simp at c0
  by_cases h : x.k < 1 ∨ 8 < x.k
  · have e : textE x = 14 := by unfold textE; rw [if_pos h]
    have e2 : textB x = ByteArray.empty := by unfold textB; rw [e]; rfl
    rw [e, e2]
    rw [vbB_out h] at HV
    clear h e e2
    go_enter Tryz.func28, Tryz.ntmps28
    go_wp2_with fail
    refine (HV.out _).mono ?_
    rintro y w1 ⟨rfl, hb⟩
    have h1 := sub_trans (HB.out _) hb
    clear hb
    go_wp2
    exact bodyPost_ret (v := .tuple #[.string ByteArray.empty, .int .i64 14]) (by simp [results, Tryz.results28, go_sem]; try rfl) rfl ⟨rfl, h1⟩
  have hv1 := vb_ne x.k.toNat (by omega) (by omega)
  have hv2 : ((vbB x.k.toNat).toList = []) = False := by
    rw [eq_iff_iff]
    constructor
    · intro e
      rw [e] at hv1
      cases hv1
    · exact False.elim
  by_cases h2 : namedK x.k = true ∧ idOk x.id = false
  · have e : textE x = 2 := by unfold textE; rw [if_neg h, if_pos h2]
    have e2 : textB x = ByteArray.empty := by unfold textB; rw [e]; rfl
    rw [e, e2]
    rw [h2.1] at HN
    rw [h2.2] at HI
    clear h e e2 h2
    generalize vbB x.k.toNat = V at *
    go_enter Tryz.func28, Tryz.ntmps28
    go_wp2_with fail
    refine (HV.out _).mono ?_
    rintro y w1 ⟨rfl, hb⟩
    have h1 := sub_trans (HB.out _) hb
    have g1 := HG.out.later hb
    have c0 := g1.cell 0
    have c1 := g1.cell 1
    simp at c0 c1
    clear hb
    go_wp2_with fail
    refine (HN.out _).mono ?_
    rintro y w2 ⟨rfl, rfl⟩
    go_wp2_with fail
    refine (HI.out _).mono ?_
    rintro y w2 ⟨rfl, rfl⟩
    go_wp2
    exact bodyPost_ret (v := .tuple #[.string ByteArray.empty, .int .i64 2]) (by simp [results, Tryz.results28, go_sem]; try rfl) rfl ⟨rfl, h1⟩
  have e : textE x = 0 := by unfold textE; rw [if_neg h, if_neg h2]
  have e2 : textB x = lineB x := by unfold textB; rw [if_pos e]
  have hn : namedK x.k = false ∨ (namedK x.k = true ∧ idOk x.id = true) := by
    cases hq : namedK x.k
    · exact .inl rfl
    · exact .inr ⟨rfl, named_ok e hq⟩
  rw [e, e2]
  clear h e e2 h2 hx
  generalize lineB x = R at *
  generalize vbB x.k.toNat = V at *
  rcases hn with h3 | ⟨h3, h4⟩
  · rw [h3] at HN
    clear h3
    go_enter Tryz.func28, Tryz.ntmps28
    go_wp2_with fail
    refine (HV.out _).mono ?_
    rintro y w1 ⟨rfl, hb⟩
    have h1 := sub_trans (HB.out _) hb
    have g1 := HG.out.later hb
    have c0 := g1.cell 0
    have c1 := g1.cell 1
    have c2 := g1.cell 2
    have c3 := g1.cell 3
    have c4 := g1.cell 4
    have c5 := g1.cell 5
    have c6 := g1.cell 6
    have c7 := g1.cell 7
    have c8 := g1.cell 8
    have c9 := g1.cell 9
    have c10 := g1.cell 10
    simp at c0 c1 c2 c3 c4 c5 c6 c7 c8 c9 c10
    clear hb
    go_wp2_with fail
    refine (HN.out _).mono ?_
    rintro y w2 ⟨rfl, rfl⟩
    go_wp2_with fail
    refine (HW.out _).mono ?_
    rintro y w2 ⟨rfl, hb⟩
    have h2 := sub_trans h1 hb
    go_wp2
    exact bodyPost_ret (v := .tuple #[.string R, .int .i64 0]) (by simp [results, Tryz.results28, go_sem]; try rfl) rfl ⟨rfl, h2⟩
  · rw [h3] at HN
    rw [h4] at HI
    clear h3 h4
    go_enter Tryz.func28, Tryz.ntmps28
    go_wp2_with fail
    refine (HV.out _).mono ?_
    rintro y w1 ⟨rfl, hb⟩
    have h1 := sub_trans (HB.out _) hb
    have g1 := HG.out.later hb
    have c0 := g1.cell 0
    have c1 := g1.cell 1
    have c2 := g1.cell 2
    have c3 := g1.cell 3
    have c4 := g1.cell 4
    have c5 := g1.cell 5
    have c6 := g1.cell 6
    have c7 := g1.cell 7
    have c8 := g1.cell 8
    have c9 := g1.cell 9
    have c10 := g1.cell 10
    simp at c0 c1 c2 c3 c4 c5 c6 c7 c8 c9 c10
    clear hb
    go_wp2_with fail
    refine (HN.out _).mono ?_
    rintro y w2 ⟨rfl, rfl⟩
    go_wp2_with fail
    refine (HI.out _).mono ?_
    rintro y w2 ⟨rfl, rfl⟩
    go_wp2_with fail
    refine (HW.out _).mono ?_
    rintro y w2 ⟨rfl, hb⟩
    have h2 := sub_trans h1 hb
    go_wp2
    exact bodyPost_ret (v := .tuple #[.string R, .int .i64 0]) (by simp [results, Tryz.results28, go_sem]; try rfl) rfl ⟨rfl, h2⟩
end Go.Proofs.YteljecehppeamaaGreatDoor
