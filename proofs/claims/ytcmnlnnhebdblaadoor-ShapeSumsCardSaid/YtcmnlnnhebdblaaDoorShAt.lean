/-
  A shape's place, its parts, its value at a tick, walked (chapter 54). Conditions: numbers of 64 bits.
-/
import Derived.Test.YtcmnlnnhebdblaaDoorShArith
import Derived.Test.YtcmnlnnhebdblaaDoorBranch
namespace Go.Proofs.YtcmnlnnhebdblaaDoor
open Go.RowKit Go.Fw
set_option maxHeartbeats 1000000
set_option maxRecDepth 4000
set_option linter.unusedVariables false
set_option linter.unusedSimpArgs false
def partN (lo hi p n : Int) : Int := IntKind.i64.wrap (lo + smallN (divAt (mulHi (hi - lo) n) (mulLo (hi - lo) n) p 128).qh (divAt (mulHi (hi - lo) n) (mulLo (hi - lo) n) p 128).ql)
theorem part_any (k lo hi p ph n : Int) (w : World) (hlo : 0 ≤ lo) (hhi : lo ≤ hi) (hI : hi ≤ 9223372036854775807) (hp : 1 ≤ p) (hp2 : p ≤ 2147483648) (hn : 0 ≤ n) (hn2 : n ≤ 9223372036854775807) :
    Calls Tryd.prog 25 #[.agg #[.int .i64 k, .int .i64 lo, .int .i64 hi, .int .i64 p, .int .i64 ph], .int .i64 n] w fun x w' => x = .returned (.int .i64 (partN lo hi p n)) ∧ Below w.heap.size w w' := by
  have HMU := Lib.hid (fun W => mul_any (hi - lo) n W)
  have HDV := Lib.hid (fun W => div_any (mulHi (hi - lo) n) (mulLo (hi - lo) n) p W (by omega))
  have HSM := Lib.hid (fun W => small_any (divAt (mulHi (hi - lo) n) (mulLo (hi - lo) n) p 128).qh (divAt (mulHi (hi - lo) n) (mulLo (hi - lo) n) p 128).ql W)
  unfold partN
  generalize divAt (mulHi (hi - lo) n) (mulLo (hi - lo) n) p 128 = q at *
  generalize mulHi (hi - lo) n = mh at *
  generalize mulLo (hi - lo) n = ml at *
  have HBX := Lib.hid (fun W => Blk.new_at W 28 #[.int .i64 k, .int .i64 lo, .int .i64 hi, .int .i64 p, .int .i64 ph] (g := W.heap.size) rfl)
  have HB0 := Lib.hid (fun o => sub_alloc (Below.refl _ w) o)
  go_enter Tryd.func25, Tryd.ntmps25
  go_wp2
  have g1 := HBX.out w
  have b1 := HB0.out (.cells #[.int .i64 k, .int .i64 lo, .int .i64 hi, .int .i64 p, .int .i64 ph] 28)
  generalize w.alloc (.cells #[.int .i64 k, .int .i64 lo, .int .i64 hi, .int .i64 p, .int .i64 ph] 28) = w1 at *
  have HG := Lib.hid (And.intro g1 b1)
  clear g1 b1 HBX HB0
  have hS : Below w1.heap.size w1 w1.drew := (Below.refl _ _).drew
  have e1 : IntKind.i64.wrap (hi - lo) = hi - lo := IntWalk.i64_in _ (by omega)
  have e2 : IntKind.u64.wrap (hi - lo) = hi - lo := IntWalk.u64_in _ (by omega)
  have e3 : IntKind.u64.wrap n = n := IntWalk.u64_in _ (by omega)
  have e4 : IntKind.u64.wrap p = p := IntWalk.u64_in _ (by omega)
  refine any_start (S := fun W => Below w1.heap.size w1 W) (by kernel_rfl) hS ?_
  generalize w1.drew = wd at *
  simp only [List.length_cons, List.length_nil, Nat.reduceAdd, List.size_toArray]
  refine any_pure 0 (v := ?_) rfl (by kernel_rfl) (by intro _ _ _ h; exact h) (by assumption) (by rfl) (fun W hW => ?_) ?_
  rotate_left
  · first | (go_simp; done) | (go_simp; with_reducible rfl)
  try simp only [Act.put, List.setIfInBounds_toArray, List.set_cons_zero, List.set_cons_succ]
  refine any_pure 1 (v := ?_) rfl (by kernel_rfl) (by intro _ _ _ h; exact h) (by assumption) (by rfl) (fun W hW => ?_) ?_
  rotate_left
  · have c0 := (HG.out.1.later hW).cell 2; simp at c0; first | (go_simp; done) | (go_simp; with_reducible rfl)
  try simp only [Act.put, List.setIfInBounds_toArray, List.set_cons_zero, List.set_cons_succ]
  refine any_pure 2 (v := ?_) rfl (by kernel_rfl) (by intro _ _ _ h; exact h) (by assumption) (by rfl) (fun W hW => ?_) ?_
  rotate_left
  · first | (go_simp; done) | (go_simp; with_reducible rfl)
  try simp only [Act.put, List.setIfInBounds_toArray, List.set_cons_zero, List.set_cons_succ]
  refine any_pure 3 (v := ?_) rfl (by kernel_rfl) (by intro _ _ _ h; exact h) (by assumption) (by rfl) (fun W hW => ?_) ?_
  rotate_left
  · have c0 := (HG.out.1.later hW).cell 1; simp at c0; first | (go_simp; done) | (go_simp; with_reducible rfl)
  try simp only [Act.put, List.setIfInBounds_toArray, List.set_cons_zero, List.set_cons_succ]
  refine any_pure 4 (v := ?_) rfl (by kernel_rfl) (by intro _ _ _ h; exact h) (by assumption) (by rfl) (fun W hW => ?_) ?_
  rotate_left
  · first | (go_simp; done) | (go_simp; with_reducible rfl)
  try simp only [Act.put, List.setIfInBounds_toArray, List.set_cons_zero, List.set_cons_succ]
  refine any_pure 5 (v := ?_) rfl (by kernel_rfl) (by intro _ _ _ h; exact h) (by assumption) (by rfl) (fun W hW => ?_) ?_
  rotate_left
  · first | (go_simp; done) | (go_simp; with_reducible rfl)
  try simp only [Act.put, List.setIfInBounds_toArray, List.set_cons_zero, List.set_cons_succ]
  refine any_pure 6 (v := ?_) rfl (by kernel_rfl) (by intro _ _ _ h; exact h) (by assumption) (by rfl) (fun W hW => ?_) ?_
  rotate_left
  · first | (go_simp; done) | (go_simp; with_reducible rfl)
  try simp only [Act.put, List.setIfInBounds_toArray, List.set_cons_zero, List.set_cons_succ]
  refine any_pure 7 (v := ?_) rfl (by kernel_rfl) (by intro _ _ _ h; exact h) (by assumption) (by rfl) (fun W hW => ?_) ?_
  rotate_left
  · first | (go_simp; done) | (go_simp; with_reducible rfl)
  try simp only [Act.put, List.setIfInBounds_toArray, List.set_cons_zero, List.set_cons_succ]
  refine any_pure 9 (v := ?_) rfl (by kernel_rfl) (by intro _ _ _ h; exact h) (by assumption) (by rfl) (fun W hW => ?_) ?_
  rotate_left
  · first | (go_simp; done) | (go_simp; with_reducible rfl)
  try simp only [Act.put, List.setIfInBounds_toArray, List.set_cons_zero, List.set_cons_succ]
  refine any_pure 10 (v := ?_) rfl (by kernel_rfl) (by intro _ _ _ h; exact h) (by assumption) (by rfl) (fun W hW => ?_) ?_
  rotate_left
  · have c0 := (HG.out.1.later hW).cell 3; simp at c0; first | (go_simp; done) | (go_simp; with_reducible rfl)
  try simp only [Act.put, List.setIfInBounds_toArray, List.set_cons_zero, List.set_cons_succ]
  refine any_pure 11 (v := ?_) rfl (by kernel_rfl) (by intro _ _ _ h; exact h) (by assumption) (by rfl) (fun W hW => ?_) ?_
  rotate_left
  · first | (go_simp; done) | (go_simp; with_reducible rfl)
  try simp only [Act.put, List.setIfInBounds_toArray, List.set_cons_zero, List.set_cons_succ]
  refine any_two 8 17 (by kernel_rfl) rfl rfl (by rfl) (by rfl) (fun K hK => ?_) (fun K hK => ?_)
  · skip
    go_simp
    refine (HMU.out _).mono ?_
    rintro x w2 ⟨rfl, hb⟩
    replace hS := sub_trans hS hb
    try replace hT := hT.later hb
    refine hK _ _ hS ?_
    clear hK hb
    try simp only [Act.put, List.setIfInBounds_toArray, List.set_cons_zero, List.set_cons_succ]
    refine any_two 12 17 (by kernel_rfl) rfl rfl (by rfl) (by rfl) (fun K hK => ?_) (fun K hK => ?_)
    · skip
      go_simp
      refine (HDV.out _).mono ?_
      rintro x w3 ⟨rfl, hb⟩
      replace hS := sub_trans hS hb
      try replace hT := hT.later hb
      refine hK _ _ hS ?_
      clear hK hb
      try simp only [Act.put, List.setIfInBounds_toArray, List.set_cons_zero, List.set_cons_succ]
      refine any_pure 13 (v := ?_) rfl (by kernel_rfl) (by intro _ _ _ h; exact h) (by assumption) (by rfl) (fun W hW => ?_) ?_
      rotate_left
      · first | (go_simp; done) | (go_simp; with_reducible rfl)
      try simp only [Act.put, List.setIfInBounds_toArray, List.set_cons_zero, List.set_cons_succ]
      refine any_pure 14 (v := ?_) rfl (by kernel_rfl) (by intro _ _ _ h; exact h) (by assumption) (by rfl) (fun W hW => ?_) ?_
      rotate_left
      · first | (go_simp; done) | (go_simp; with_reducible rfl)
      try simp only [Act.put, List.setIfInBounds_toArray, List.set_cons_zero, List.set_cons_succ]
      refine any_pure 15 (v := ?_) rfl (by kernel_rfl) (by intro _ _ _ h; exact h) (by assumption) (by rfl) (fun W hW => ?_) ?_
      rotate_left
      · first | (go_simp; done) | (go_simp; with_reducible rfl)
      try simp only [Act.put, List.setIfInBounds_toArray, List.set_cons_zero, List.set_cons_succ]
      refine any_pure 16 (v := ?_) rfl (by kernel_rfl) (by intro _ _ _ h; exact h) (by assumption) (by rfl) (fun W hW => ?_) ?_
      rotate_left
      · first | (go_simp; done) | (go_simp; with_reducible rfl)
      try simp only [Act.put, List.setIfInBounds_toArray, List.set_cons_zero, List.set_cons_succ]
      refine any_one 17 (by kernel_rfl) rfl (by rfl) (fun K hK => ?_)
      go_simp
      refine new_then (R := fun WT => K _ WT) hS rfl (fun WT hS hT hTL => ?_)
      refine hK _ _ hS ?_
      clear hK
      try simp only [Act.put, List.setIfInBounds_toArray, List.set_cons_zero, List.set_cons_succ]
      refine any_one 18 (by kernel_rfl) rfl (by rfl) (fun K hK => ?_)
      have f0 := hT.frozen
      have c0 := hT.cell 0
      have c1 := hT.cell 1
      simp at c0 c1
      go_simp
      have hT2 := (hT.set_ 0 (.int .u64 q.qh)).set_ 1 (.int .u64 q.ql)
      simp at hT2
      have hS2 := (hS.setCell (p := ⟨_, 0, none⟩) hTL (.int .u64 q.qh)).setCell (p := ⟨_, 1, none⟩) hTL (.int .u64 q.ql)
      refine hK _ _ hS2 ?_
      clear hK c0 c1 f0 hT hS
      try simp only [Act.put, List.setIfInBounds_toArray, List.set_cons_zero, List.set_cons_succ]
      refine any_pure 19 (v := ?_) rfl (by kernel_rfl) (by intro _ _ _ h; exact h) (by assumption) (by rfl) (fun W hW => ?_) ?_
      rotate_left
      · first | (go_simp; done) | (go_simp; with_reducible rfl)
      try simp only [Act.put, List.setIfInBounds_toArray, List.set_cons_zero, List.set_cons_succ]
      refine any_pure 20 (v := ?_) rfl (by kernel_rfl) (by intro _ _ _ h; exact h) (by assumption) (by rfl) (fun W hW => ?_) ?_
      rotate_left
      · first | (go_simp; done) | (go_simp; with_reducible rfl)
      try simp only [Act.put, List.setIfInBounds_toArray, List.set_cons_zero, List.set_cons_succ]
      refine any_done (by kernel_rfl) ?_
      have hSF := hS2.drew
      have hTF := hT2.drew
      clear hS hS2 hT2 hTL
      go_wp2
      refine any_start (S := fun W => Below w1.heap.size w1 W ∧ Blk W _ 73 #[.int .u64 q.qh, .int .u64 q.ql]) (by kernel_rfl) ⟨hSF, hTF⟩ ?_
      have hS : _ ∧ _ := ⟨hSF, hTF⟩
      clear hSF hTF
      generalize World.drew _ = wf at *
      simp only [List.length_cons, List.length_nil, Nat.reduceAdd, List.size_toArray]
      refine any_pure 0 (v := ?_) rfl (by kernel_rfl) (by intro _ _ _ h; exact h) (by assumption) (by rfl) (fun W hW => ?_) ?_
      rotate_left
      · first | (go_simp; done) | (go_simp; with_reducible rfl)
      try simp only [Act.put, List.setIfInBounds_toArray, List.set_cons_zero, List.set_cons_succ]
      refine any_pure 1 (v := ?_) rfl (by kernel_rfl) (by intro _ _ _ h; exact h) (by assumption) (by rfl) (fun W hW => ?_) ?_
      rotate_left
      · have c0 := (HG.out.1.later hW.1).cell 1; simp at c0; first | (go_simp; done) | (go_simp; with_reducible rfl)
      try simp only [Act.put, List.setIfInBounds_toArray, List.set_cons_zero, List.set_cons_succ]
      refine any_pure 2 (v := ?_) rfl (by kernel_rfl) (by intro _ _ _ h; exact h) (by assumption) (by rfl) (fun W hW => ?_) ?_
      rotate_left
      · have c0 := hW.2.cell 0; have c1 := hW.2.cell 1; simp at c0 c1; first | (go_simp; done) | (go_simp; with_reducible rfl)
      try simp only [Act.put, List.setIfInBounds_toArray, List.set_cons_zero, List.set_cons_succ]
      refine any_one 3 (by kernel_rfl) rfl (by rfl) (fun K hK => ?_)
      go_simp
      refine (HSM.out _).mono ?_
      rintro x w4 ⟨rfl, hb⟩
      have hS3 := hS
      replace hS : _ ∧ _ := ⟨sub_trans hS.1 hb, hS.2.later hb⟩
      refine hK _ _ hS ?_
      clear hK hb
      try simp only [Act.put, List.setIfInBounds_toArray, List.set_cons_zero, List.set_cons_succ]
      refine any_pure 4 (v := ?_) rfl (by kernel_rfl) (by intro _ _ _ h; exact h) (by assumption) (by rfl) (fun W hW => ?_) ?_
      rotate_left
      · first | (go_simp; done) | (go_simp; with_reducible rfl)
      try simp only [Act.put, List.setIfInBounds_toArray, List.set_cons_zero, List.set_cons_succ]
      refine any_pure 5 (v := ?_) rfl (by kernel_rfl) (by intro _ _ _ h; exact h) (by assumption) (by rfl) (fun W hW => ?_) ?_
      rotate_left
      · first | (go_simp; done) | (go_simp; with_reducible rfl)
      try simp only [Act.put, List.setIfInBounds_toArray, List.set_cons_zero, List.set_cons_succ]
      refine any_done (by kernel_rfl) ?_
      go_wp2
      go_ret
      exact ⟨by first | rfl | simp, sub_trans HG.out.2 hS.1⟩
    · skip
      go_simp
      refine new_then (R := fun WT => K _ WT) hS rfl (fun WT hS hT hTL => ?_)
      refine hK _ _ hS ?_
      clear hK
      try simp only [Act.put, List.setIfInBounds_toArray, List.set_cons_zero, List.set_cons_succ]
      refine any_one 12 (by kernel_rfl) rfl (by rfl) (fun K hK => ?_)
      go_simp
      refine (HDV.out _).mono ?_
      rintro x w3 ⟨rfl, hb⟩
      replace hS := sub_trans hS hb
      try replace hT := hT.later hb
      refine hK _ _ hS ?_
      clear hK hb
      try simp only [Act.put, List.setIfInBounds_toArray, List.set_cons_zero, List.set_cons_succ]
      refine any_pure 13 (v := ?_) rfl (by kernel_rfl) (by intro _ _ _ h; exact h) (by assumption) (by rfl) (fun W hW => ?_) ?_
      rotate_left
      · first | (go_simp; done) | (go_simp; with_reducible rfl)
      try simp only [Act.put, List.setIfInBounds_toArray, List.set_cons_zero, List.set_cons_succ]
      refine any_pure 14 (v := ?_) rfl (by kernel_rfl) (by intro _ _ _ h; exact h) (by assumption) (by rfl) (fun W hW => ?_) ?_
      rotate_left
      · first | (go_simp; done) | (go_simp; with_reducible rfl)
      try simp only [Act.put, List.setIfInBounds_toArray, List.set_cons_zero, List.set_cons_succ]
      refine any_pure 15 (v := ?_) rfl (by kernel_rfl) (by intro _ _ _ h; exact h) (by assumption) (by rfl) (fun W hW => ?_) ?_
      rotate_left
      · first | (go_simp; done) | (go_simp; with_reducible rfl)
      try simp only [Act.put, List.setIfInBounds_toArray, List.set_cons_zero, List.set_cons_succ]
      refine any_pure 16 (v := ?_) rfl (by kernel_rfl) (by intro _ _ _ h; exact h) (by assumption) (by rfl) (fun W hW => ?_) ?_
      rotate_left
      · first | (go_simp; done) | (go_simp; with_reducible rfl)
      try simp only [Act.put, List.setIfInBounds_toArray, List.set_cons_zero, List.set_cons_succ]
      refine any_one 18 (by kernel_rfl) rfl (by rfl) (fun K hK => ?_)
      have f0 := hT.frozen
      have c0 := hT.cell 0
      have c1 := hT.cell 1
      simp at c0 c1
      go_simp
      have hT2 := (hT.set_ 0 (.int .u64 q.qh)).set_ 1 (.int .u64 q.ql)
      simp at hT2
      have hS2 := (hS.setCell (p := ⟨_, 0, none⟩) hTL (.int .u64 q.qh)).setCell (p := ⟨_, 1, none⟩) hTL (.int .u64 q.ql)
      refine hK _ _ hS2 ?_
      clear hK c0 c1 f0 hT hS
      try simp only [Act.put, List.setIfInBounds_toArray, List.set_cons_zero, List.set_cons_succ]
      refine any_pure 19 (v := ?_) rfl (by kernel_rfl) (by intro _ _ _ h; exact h) (by assumption) (by rfl) (fun W hW => ?_) ?_
      rotate_left
      · first | (go_simp; done) | (go_simp; with_reducible rfl)
      try simp only [Act.put, List.setIfInBounds_toArray, List.set_cons_zero, List.set_cons_succ]
      refine any_pure 20 (v := ?_) rfl (by kernel_rfl) (by intro _ _ _ h; exact h) (by assumption) (by rfl) (fun W hW => ?_) ?_
      rotate_left
      · first | (go_simp; done) | (go_simp; with_reducible rfl)
      try simp only [Act.put, List.setIfInBounds_toArray, List.set_cons_zero, List.set_cons_succ]
      refine any_done (by kernel_rfl) ?_
      have hSF := hS2.drew
      have hTF := hT2.drew
      clear hS hS2 hT2 hTL
      go_wp2
      refine any_start (S := fun W => Below w1.heap.size w1 W ∧ Blk W _ 73 #[.int .u64 q.qh, .int .u64 q.ql]) (by kernel_rfl) ⟨hSF, hTF⟩ ?_
      have hS : _ ∧ _ := ⟨hSF, hTF⟩
      clear hSF hTF
      generalize World.drew _ = wf at *
      simp only [List.length_cons, List.length_nil, Nat.reduceAdd, List.size_toArray]
      refine any_pure 0 (v := ?_) rfl (by kernel_rfl) (by intro _ _ _ h; exact h) (by assumption) (by rfl) (fun W hW => ?_) ?_
      rotate_left
      · first | (go_simp; done) | (go_simp; with_reducible rfl)
      try simp only [Act.put, List.setIfInBounds_toArray, List.set_cons_zero, List.set_cons_succ]
      refine any_pure 1 (v := ?_) rfl (by kernel_rfl) (by intro _ _ _ h; exact h) (by assumption) (by rfl) (fun W hW => ?_) ?_
      rotate_left
      · have c0 := (HG.out.1.later hW.1).cell 1; simp at c0; first | (go_simp; done) | (go_simp; with_reducible rfl)
      try simp only [Act.put, List.setIfInBounds_toArray, List.set_cons_zero, List.set_cons_succ]
      refine any_pure 2 (v := ?_) rfl (by kernel_rfl) (by intro _ _ _ h; exact h) (by assumption) (by rfl) (fun W hW => ?_) ?_
      rotate_left
      · have c0 := hW.2.cell 0; have c1 := hW.2.cell 1; simp at c0 c1; first | (go_simp; done) | (go_simp; with_reducible rfl)
      try simp only [Act.put, List.setIfInBounds_toArray, List.set_cons_zero, List.set_cons_succ]
      refine any_one 3 (by kernel_rfl) rfl (by rfl) (fun K hK => ?_)
      go_simp
      refine (HSM.out _).mono ?_
      rintro x w4 ⟨rfl, hb⟩
      have hS3 := hS
      replace hS : _ ∧ _ := ⟨sub_trans hS.1 hb, hS.2.later hb⟩
      refine hK _ _ hS ?_
      clear hK hb
      try simp only [Act.put, List.setIfInBounds_toArray, List.set_cons_zero, List.set_cons_succ]
      refine any_pure 4 (v := ?_) rfl (by kernel_rfl) (by intro _ _ _ h; exact h) (by assumption) (by rfl) (fun W hW => ?_) ?_
      rotate_left
      · first | (go_simp; done) | (go_simp; with_reducible rfl)
      try simp only [Act.put, List.setIfInBounds_toArray, List.set_cons_zero, List.set_cons_succ]
      refine any_pure 5 (v := ?_) rfl (by kernel_rfl) (by intro _ _ _ h; exact h) (by assumption) (by rfl) (fun W hW => ?_) ?_
      rotate_left
      · first | (go_simp; done) | (go_simp; with_reducible rfl)
      try simp only [Act.put, List.setIfInBounds_toArray, List.set_cons_zero, List.set_cons_succ]
      refine any_done (by kernel_rfl) ?_
      go_wp2
      go_ret
      exact ⟨by first | rfl | simp, sub_trans HG.out.2 hS.1⟩
  · skip
    go_simp
    refine new_then (R := fun WT => K _ WT) hS rfl (fun WT hS hT hTL => ?_)
    refine hK _ _ hS ?_
    clear hK
    try simp only [Act.put, List.setIfInBounds_toArray, List.set_cons_zero, List.set_cons_succ]
    refine any_one 8 (by kernel_rfl) rfl (by rfl) (fun K hK => ?_)
    go_simp
    refine (HMU.out _).mono ?_
    rintro x w2 ⟨rfl, hb⟩
    replace hS := sub_trans hS hb
    try replace hT := hT.later hb
    refine hK _ _ hS ?_
    clear hK hb
    try simp only [Act.put, List.setIfInBounds_toArray, List.set_cons_zero, List.set_cons_succ]
    refine any_one 12 (by kernel_rfl) rfl (by rfl) (fun K hK => ?_)
    go_simp
    refine (HDV.out _).mono ?_
    rintro x w3 ⟨rfl, hb⟩
    replace hS := sub_trans hS hb
    try replace hT := hT.later hb
    refine hK _ _ hS ?_
    clear hK hb
    try simp only [Act.put, List.setIfInBounds_toArray, List.set_cons_zero, List.set_cons_succ]
    refine any_pure 13 (v := ?_) rfl (by kernel_rfl) (by intro _ _ _ h; exact h) (by assumption) (by rfl) (fun W hW => ?_) ?_
    rotate_left
    · first | (go_simp; done) | (go_simp; with_reducible rfl)
    try simp only [Act.put, List.setIfInBounds_toArray, List.set_cons_zero, List.set_cons_succ]
    refine any_pure 14 (v := ?_) rfl (by kernel_rfl) (by intro _ _ _ h; exact h) (by assumption) (by rfl) (fun W hW => ?_) ?_
    rotate_left
    · first | (go_simp; done) | (go_simp; with_reducible rfl)
    try simp only [Act.put, List.setIfInBounds_toArray, List.set_cons_zero, List.set_cons_succ]
    refine any_pure 15 (v := ?_) rfl (by kernel_rfl) (by intro _ _ _ h; exact h) (by assumption) (by rfl) (fun W hW => ?_) ?_
    rotate_left
    · first | (go_simp; done) | (go_simp; with_reducible rfl)
    try simp only [Act.put, List.setIfInBounds_toArray, List.set_cons_zero, List.set_cons_succ]
    refine any_pure 16 (v := ?_) rfl (by kernel_rfl) (by intro _ _ _ h; exact h) (by assumption) (by rfl) (fun W hW => ?_) ?_
    rotate_left
    · first | (go_simp; done) | (go_simp; with_reducible rfl)
    try simp only [Act.put, List.setIfInBounds_toArray, List.set_cons_zero, List.set_cons_succ]
    refine any_one 18 (by kernel_rfl) rfl (by rfl) (fun K hK => ?_)
    have f0 := hT.frozen
    have c0 := hT.cell 0
    have c1 := hT.cell 1
    simp at c0 c1
    go_simp
    have hT2 := (hT.set_ 0 (.int .u64 q.qh)).set_ 1 (.int .u64 q.ql)
    simp at hT2
    have hS2 := (hS.setCell (p := ⟨_, 0, none⟩) hTL (.int .u64 q.qh)).setCell (p := ⟨_, 1, none⟩) hTL (.int .u64 q.ql)
    refine hK _ _ hS2 ?_
    clear hK c0 c1 f0 hT hS
    try simp only [Act.put, List.setIfInBounds_toArray, List.set_cons_zero, List.set_cons_succ]
    refine any_pure 19 (v := ?_) rfl (by kernel_rfl) (by intro _ _ _ h; exact h) (by assumption) (by rfl) (fun W hW => ?_) ?_
    rotate_left
    · first | (go_simp; done) | (go_simp; with_reducible rfl)
    try simp only [Act.put, List.setIfInBounds_toArray, List.set_cons_zero, List.set_cons_succ]
    refine any_pure 20 (v := ?_) rfl (by kernel_rfl) (by intro _ _ _ h; exact h) (by assumption) (by rfl) (fun W hW => ?_) ?_
    rotate_left
    · first | (go_simp; done) | (go_simp; with_reducible rfl)
    try simp only [Act.put, List.setIfInBounds_toArray, List.set_cons_zero, List.set_cons_succ]
    refine any_done (by kernel_rfl) ?_
    have hSF := hS2.drew
    have hTF := hT2.drew
    clear hS hS2 hT2 hTL
    go_wp2
    refine any_start (S := fun W => Below w1.heap.size w1 W ∧ Blk W _ 73 #[.int .u64 q.qh, .int .u64 q.ql]) (by kernel_rfl) ⟨hSF, hTF⟩ ?_
    have hS : _ ∧ _ := ⟨hSF, hTF⟩
    clear hSF hTF
    generalize World.drew _ = wf at *
    simp only [List.length_cons, List.length_nil, Nat.reduceAdd, List.size_toArray]
    refine any_pure 0 (v := ?_) rfl (by kernel_rfl) (by intro _ _ _ h; exact h) (by assumption) (by rfl) (fun W hW => ?_) ?_
    rotate_left
    · first | (go_simp; done) | (go_simp; with_reducible rfl)
    try simp only [Act.put, List.setIfInBounds_toArray, List.set_cons_zero, List.set_cons_succ]
    refine any_pure 1 (v := ?_) rfl (by kernel_rfl) (by intro _ _ _ h; exact h) (by assumption) (by rfl) (fun W hW => ?_) ?_
    rotate_left
    · have c0 := (HG.out.1.later hW.1).cell 1; simp at c0; first | (go_simp; done) | (go_simp; with_reducible rfl)
    try simp only [Act.put, List.setIfInBounds_toArray, List.set_cons_zero, List.set_cons_succ]
    refine any_pure 2 (v := ?_) rfl (by kernel_rfl) (by intro _ _ _ h; exact h) (by assumption) (by rfl) (fun W hW => ?_) ?_
    rotate_left
    · have c0 := hW.2.cell 0; have c1 := hW.2.cell 1; simp at c0 c1; first | (go_simp; done) | (go_simp; with_reducible rfl)
    try simp only [Act.put, List.setIfInBounds_toArray, List.set_cons_zero, List.set_cons_succ]
    refine any_one 3 (by kernel_rfl) rfl (by rfl) (fun K hK => ?_)
    go_simp
    refine (HSM.out _).mono ?_
    rintro x w4 ⟨rfl, hb⟩
    have hS3 := hS
    replace hS : _ ∧ _ := ⟨sub_trans hS.1 hb, hS.2.later hb⟩
    refine hK _ _ hS ?_
    clear hK hb
    try simp only [Act.put, List.setIfInBounds_toArray, List.set_cons_zero, List.set_cons_succ]
    refine any_pure 4 (v := ?_) rfl (by kernel_rfl) (by intro _ _ _ h; exact h) (by assumption) (by rfl) (fun W hW => ?_) ?_
    rotate_left
    · first | (go_simp; done) | (go_simp; with_reducible rfl)
    try simp only [Act.put, List.setIfInBounds_toArray, List.set_cons_zero, List.set_cons_succ]
    refine any_pure 5 (v := ?_) rfl (by kernel_rfl) (by intro _ _ _ h; exact h) (by assumption) (by rfl) (fun W hW => ?_) ?_
    rotate_left
    · first | (go_simp; done) | (go_simp; with_reducible rfl)
    try simp only [Act.put, List.setIfInBounds_toArray, List.set_cons_zero, List.set_cons_succ]
    refine any_done (by kernel_rfl) ?_
    go_wp2
    go_ret
    exact ⟨by first | rfl | simp, sub_trans HG.out.2 hS.1⟩
/-- where a tick is in its period -/
def placeN (tick p ph : Int) : Int := restN (restN tick p + restN ph p) p
theorem placeN_in {tick p ph : Int} (h1 : In64 tick) (h2 : In64 ph) (hp : 1 ≤ p) (hp2 : p ≤ 2147483648) : 0 ≤ placeN tick p ph ∧ placeN tick p ph < p := by
  have g1 := restN_in h1 hp hp2
  have g2 := restN_in h2 hp hp2
  exact restN_in ⟨by omega, by omega⟩ hp hp2
theorem place_any (k lo hi p ph tick : Int) (w : World) (he : errS k lo hi p = 0) (ht : In64 tick) (hph : In64 ph) :
    Calls Tryd.prog 24 #[.agg #[.int .i64 k, .int .i64 lo, .int .i64 hi, .int .i64 p, .int .i64 ph], .int .i64 tick] w fun x w' => x = .returned (.int .i64 (placeN tick p ph)) ∧ Below w.heap.size w w' := by
  have hok := errS_ok he
  have hp : 1 ≤ p := by omega
  have hp2 : p ≤ 2147483648 := by omega
  have HC := Lib.hid (fun W => scheck_any k lo hi p ph W)
  rw [he] at HC
  have g1 := restN_in ht hp hp2
  have g2 := restN_in hph hp hp2
  have HR1 := Lib.hid (fun W => rest_any tick p W ht hp hp2)
  have HR2 := Lib.hid (fun W => rest_any ph p W hph hp hp2)
  have HR3 := Lib.hid (fun W => rest_any (restN tick p + restN ph p) p W ⟨by omega, by omega⟩ hp hp2)
  unfold placeN
  have e1 : IntKind.i64.wrap (restN tick p + restN ph p) = restN tick p + restN ph p := IntWalk.i64_in _ (by omega)
  clear g1 g2
  generalize restN (restN tick p + restN ph p) p = r3 at *
  generalize restN tick p = r1 at *
  generalize restN ph p = r2 at *
  have HBX := Lib.hid (fun W => Blk.new_at W 28 #[.int .i64 k, .int .i64 lo, .int .i64 hi, .int .i64 p, .int .i64 ph] (g := W.heap.size) rfl)
  have HB0 := Lib.hid (fun o => sub_alloc (Below.refl _ w) o)
  clear hok he ht hph hp hp2
  go_enter Tryd.func24, Tryd.ntmps24
  have g0 := HBX.out w
  have c0 := g0.cell 0
  have c1 := g0.cell 1
  have c2 := g0.cell 2
  have c3 := g0.cell 3
  have c4 := g0.cell 4
  simp at c0 c1 c2 c3 c4
  clear g0
  go_wp2_with fail
  refine (HC.out _).mono ?_
  rintro x w1 ⟨rfl, hb⟩
  have h1 := sub_trans (HB0.out _) hb
  have g1 := (HBX.out w).later hb
  have HG := Lib.hid (And.intro h1 g1)
  clear hb h1 g1 c0 c1 c2 c3 c4
  go_wp2
  have hS0 : w1.drew = w1.drew := rfl
  refine any_start (S := fun W => W = w1.drew) (by kernel_rfl) hS0 ?_
  simp only [List.length_cons, List.length_nil, Nat.reduceAdd, List.size_toArray]
  refine any_pure 0 (v := ?_) rfl (by kernel_rfl) (by intro _ _ _ h; exact h) (by assumption) (by rfl) (fun W hW => ?_) ?_
  rotate_left
  · first | (go_simp; done) | (go_simp; with_reducible rfl)
  try simp only [Act.put, List.setIfInBounds_toArray, List.set_cons_zero, List.set_cons_succ]
  refine any_pure 1 (v := ?_) rfl (by kernel_rfl) (by intro _ _ _ h; exact h) (by assumption) (by rfl) (fun W hW => ?_) ?_
  rotate_left
  · first | (go_simp; done) | (go_simp; with_reducible rfl)
  try simp only [Act.put, List.setIfInBounds_toArray, List.set_cons_zero, List.set_cons_succ]
  refine any_pure 2 (v := ?_) rfl (by kernel_rfl) (by intro _ _ _ h; exact h) (by assumption) (by rfl) (fun W hW => ?_) ?_
  rotate_left
  · subst hW; have c0 : w1.drew.cell? ⟨w.heap.size, 3, none⟩ = some (.int .i64 p) := HG.out.2.drew.cell 3; first | (go_simp; done) | (go_simp; with_reducible rfl)
  try simp only [Act.put, List.setIfInBounds_toArray, List.set_cons_zero, List.set_cons_succ]
  refine any_call 3 33 #[.int .i64 tick, .int .i64 p] (.int .i64 r1) rfl (by kernel_rfl) (by intro _ _ _ h; exact h) (by assumption) (by rfl) (fun _ => by go_simp) (fun W hW => ?_) ?_
  · exact HR1.out W
  try simp only [Act.put, List.setIfInBounds_toArray, List.set_cons_zero, List.set_cons_succ]
  refine any_pure 4 (v := ?_) rfl (by kernel_rfl) (by intro _ _ _ h; exact h) (by assumption) (by rfl) (fun W hW => ?_) ?_
  rotate_left
  · first | (go_simp; done) | (go_simp; with_reducible rfl)
  try simp only [Act.put, List.setIfInBounds_toArray, List.set_cons_zero, List.set_cons_succ]
  refine any_pure 5 (v := ?_) rfl (by kernel_rfl) (by intro _ _ _ h; exact h) (by assumption) (by rfl) (fun W hW => ?_) ?_
  rotate_left
  · subst hW; have c0 : w1.drew.cell? ⟨w.heap.size, 4, none⟩ = some (.int .i64 ph) := HG.out.2.drew.cell 4; first | (go_simp; done) | (go_simp; with_reducible rfl)
  try simp only [Act.put, List.setIfInBounds_toArray, List.set_cons_zero, List.set_cons_succ]
  refine any_pure 6 (v := ?_) rfl (by kernel_rfl) (by intro _ _ _ h; exact h) (by assumption) (by rfl) (fun W hW => ?_) ?_
  rotate_left
  · first | (go_simp; done) | (go_simp; with_reducible rfl)
  try simp only [Act.put, List.setIfInBounds_toArray, List.set_cons_zero, List.set_cons_succ]
  refine any_pure 7 (v := ?_) rfl (by kernel_rfl) (by intro _ _ _ h; exact h) (by assumption) (by rfl) (fun W hW => ?_) ?_
  rotate_left
  · subst hW; have c0 : w1.drew.cell? ⟨w.heap.size, 3, none⟩ = some (.int .i64 p) := HG.out.2.drew.cell 3; first | (go_simp; done) | (go_simp; with_reducible rfl)
  try simp only [Act.put, List.setIfInBounds_toArray, List.set_cons_zero, List.set_cons_succ]
  refine any_call 8 33 #[.int .i64 ph, .int .i64 p] (.int .i64 r2) rfl (by kernel_rfl) (by intro _ _ _ h; exact h) (by assumption) (by rfl) (fun _ => by go_simp) (fun W hW => ?_) ?_
  · exact HR2.out W
  try simp only [Act.put, List.setIfInBounds_toArray, List.set_cons_zero, List.set_cons_succ]
  refine any_pure 9 (v := ?_) rfl (by kernel_rfl) (by intro _ _ _ h; exact h) (by assumption) (by rfl) (fun W hW => ?_) ?_
  rotate_left
  · first | (go_simp; done) | (go_simp; with_reducible rfl)
  try simp only [Act.put, List.setIfInBounds_toArray, List.set_cons_zero, List.set_cons_succ]
  refine any_pure 10 (v := ?_) rfl (by kernel_rfl) (by intro _ _ _ h; exact h) (by assumption) (by rfl) (fun W hW => ?_) ?_
  rotate_left
  · first | (go_simp; done) | (go_simp; with_reducible rfl)
  try simp only [Act.put, List.setIfInBounds_toArray, List.set_cons_zero, List.set_cons_succ]
  refine any_pure 11 (v := ?_) rfl (by kernel_rfl) (by intro _ _ _ h; exact h) (by assumption) (by rfl) (fun W hW => ?_) ?_
  rotate_left
  · subst hW; have c0 : w1.drew.cell? ⟨w.heap.size, 3, none⟩ = some (.int .i64 p) := HG.out.2.drew.cell 3; first | (go_simp; done) | (go_simp; with_reducible rfl)
  try simp only [Act.put, List.setIfInBounds_toArray, List.set_cons_zero, List.set_cons_succ]
  refine any_call 12 33 #[.int .i64 (r1 + r2), .int .i64 p] (.int .i64 r3) rfl (by kernel_rfl) (by intro _ _ _ h; exact h) (by assumption) (by rfl) (fun _ => by go_simp) (fun W hW => ?_) ?_
  · exact HR3.out W
  try simp only [Act.put, List.setIfInBounds_toArray, List.set_cons_zero, List.set_cons_succ]
  refine any_pure 13 (v := ?_) rfl (by kernel_rfl) (by intro _ _ _ h; exact h) (by assumption) (by rfl) (fun W hW => ?_) ?_
  rotate_left
  · first | (go_simp; done) | (go_simp; with_reducible rfl)
  try simp only [Act.put, List.setIfInBounds_toArray, List.set_cons_zero, List.set_cons_succ]
  refine any_done (by kernel_rfl) ?_
  go_wp2
  go_ret
  exact ⟨rfl, HG.out.1.drew⟩
/-- a shape's value at a tick -/
def atN (k lo hi p ph tick : Int) : Int :=
  if errS k lo hi p ≠ 0 then 0
  else if k = 2 then partN lo hi p (placeN tick p ph)
  else if k = 3 then (if p - placeN tick p ph ≤ placeN tick p ph then hi else lo)
  else if k = 4 then (if placeN tick p ph = 0 then hi else lo)
  else if k = 5 then partN lo hi p (2 * min (placeN tick p ph) (p - placeN tick p ph))
  else lo
theorem wrap_in (x : Int) : In64 (IntKind.i64.wrap x) := by
  have e : IntKind.i64.wrap x = wrap64 x := IntWalk.i64_left x
  rw [e]
  unfold wrap64 In64
  omega
theorem atN_in {k lo hi p ph : Int} (tick : Int) (h5 : In5 k lo hi p ph) : In64 (atN k lo hi p ph tick) := by
  obtain ⟨h1, h2, h3, h4, h5⟩ := h5
  have z : In64 0 := ⟨by decide, by decide⟩
  unfold atN partN
  repeat' split
  all_goals first | exact z | exact wrap_in _ | assumption
theorem at_any (k lo hi p ph tick : Int) (h5 : In5 k lo hi p ph) (w : World) (ht : In64 tick) :
    Calls Tryd.prog 12 #[.agg #[.int .i64 k, .int .i64 lo, .int .i64 hi, .int .i64 p, .int .i64 ph], .int .i64 tick] w fun x w' => x = .returned (.int .i64 (atN k lo hi p ph tick)) ∧ Below w.heap.size w w' := by
  have HC := Lib.hid (fun W => scheck_any k lo hi p ph W)
  have HBX := Lib.hid (fun W => Blk.new_at W 28 #[.int .i64 k, .int .i64 lo, .int .i64 hi, .int .i64 p, .int .i64 ph] (g := W.heap.size) rfl)
  have HB0 := Lib.hid (fun o => sub_alloc (Below.refl _ w) o)
  have g0 := HBX.out w
  have c0 := g0.cell 0
  have c1 := g0.cell 1
  have c2 := g0.cell 2
  have c3 := g0.cell 3
  have c4 := g0.cell 4
  simp at c0 c1 c2 c3 c4
  clear g0
  by_cases he : errS k lo hi p = 0
  case neg =>
    have HF := Lib.hid (show atN k lo hi p ph tick = 0 from if_pos he)
    generalize errS k lo hi p = er at *
    generalize atN k lo hi p ph tick = res at *
    go_enter Tryd.func12, Tryd.ntmps12
    go_wp2_with fail
    refine (HC.out _).mono ?_
    rintro x w1 ⟨rfl, hb⟩
    have h1 := sub_trans (HB0.out _) hb
    clear hb
    go_wp2
    go_ret
    exact ⟨by rw [HF.out]; rfl, h1⟩
  have hok := errS_ok he
  have hp : 1 ≤ p := by omega
  have hp2 : p ≤ 2147483648 := by omega
  have HPL := Lib.hid (fun W => place_any k lo hi p ph tick W he ht h5.2.2.2.2)
  have hpl := placeN_in (tick := tick) ht h5.2.2.2.2 hp hp2
  obtain ⟨p0, p1⟩ := hpl
  have HPA := Lib.hid (fun n W hn hn2 => part_any k lo hi p ph n W (by omega) (by omega) h5.2.2.1.2 hp hp2 hn hn2)
  have hor : k = 1 ∨ k = 2 ∨ k = 3 ∨ k = 4 ∨ k = 5 := by omega
  have HF := Lib.hid (show atN k lo hi p ph tick = _ from if_neg (fun h => h he))
  rw [he] at HC
  generalize atN k lo hi p ph tick = res at *
  generalize placeN tick p ph = pl at *
  clear h5 he
  have e1 : IntKind.i64.wrap (p - pl) = p - pl := IntWalk.i64_in _ (by omega)
  rcases hor with rfl | rfl | rfl | rfl | rfl
  · go_enter Tryd.func12, Tryd.ntmps12
    go_wp2_with fail
    refine (HC.out _).mono ?_
    rintro x w1 ⟨rfl, hb⟩
    have h1 := sub_trans (HB0.out _) hb
    have g1 := (HBX.out w).later hb
    have c0 := g1.cell 0
    have c1 := g1.cell 1
    have c2 := g1.cell 2
    have c3 := g1.cell 3
    have c4 := g1.cell 4
    simp at c0 c1 c2 c3 c4
    clear hb
    go_wp2_with fail
    refine (HPL.out _).mono ?_
    rintro x w2 ⟨rfl, hb⟩
    have h2 := sub_trans h1 hb
    have g2 := g1.later hb
    have c0 := g2.cell 0
    have c1 := g2.cell 1
    have c2 := g2.cell 2
    have c3 := g2.cell 3
    have c4 := g2.cell 4
    simp at c0 c1 c2 c3 c4
    clear hb h1 g1
    go_wp2
    go_ret
    exact ⟨by rw [HF.out]; rfl, h2⟩
  · go_enter Tryd.func12, Tryd.ntmps12
    go_wp2_with fail
    refine (HC.out _).mono ?_
    rintro x w1 ⟨rfl, hb⟩
    have h1 := sub_trans (HB0.out _) hb
    have g1 := (HBX.out w).later hb
    have c0 := g1.cell 0
    have c1 := g1.cell 1
    have c2 := g1.cell 2
    have c3 := g1.cell 3
    have c4 := g1.cell 4
    simp at c0 c1 c2 c3 c4
    clear hb
    go_wp2_with fail
    refine (HPL.out _).mono ?_
    rintro x w2 ⟨rfl, hb⟩
    have h2 := sub_trans h1 hb
    have g2 := g1.later hb
    have c0 := g2.cell 0
    have c1 := g2.cell 1
    have c2 := g2.cell 2
    have c3 := g2.cell 3
    have c4 := g2.cell 4
    simp at c0 c1 c2 c3 c4
    clear hb h1 g1
    go_wp2_with fail
    refine (HPA.out pl w2 (by omega) (by omega)).mono ?_
    rintro x w3 ⟨rfl, hb⟩
    have h3 := sub_trans h2 hb
    clear hb
    go_wp2
    go_ret
    exact ⟨by rw [HF.out]; rfl, h3⟩
  · by_cases h3 : p - pl ≤ pl
    · have HF2 := Lib.hid (show res = hi by rw [HF.out, if_neg (by decide), if_pos rfl, if_pos h3])
      go_enter Tryd.func12, Tryd.ntmps12
      go_wp2_with fail
      refine (HC.out _).mono ?_
      rintro x w1 ⟨rfl, hb⟩
      have h1 := sub_trans (HB0.out _) hb
      have g1 := (HBX.out w).later hb
      have c0 := g1.cell 0
      have c1 := g1.cell 1
      have c2 := g1.cell 2
      have c3 := g1.cell 3
      have c4 := g1.cell 4
      simp at c0 c1 c2 c3 c4
      clear hb
      go_wp2_with fail
      refine (HPL.out _).mono ?_
      rintro x w2 ⟨rfl, hb⟩
      have h2 := sub_trans h1 hb
      have g2 := g1.later hb
      have c0 := g2.cell 0
      have c1 := g2.cell 1
      have c2 := g2.cell 2
      have c3 := g2.cell 3
      have c4 := g2.cell 4
      simp at c0 c1 c2 c3 c4
      clear hb h1 g1
      go_wp2
      go_ret
      exact ⟨ret_i HF2.out.symm, h2⟩
    · have HF2 := Lib.hid (show res = lo by rw [HF.out, if_neg (by decide), if_pos rfl, if_neg h3])
      go_enter Tryd.func12, Tryd.ntmps12
      go_wp2_with fail
      refine (HC.out _).mono ?_
      rintro x w1 ⟨rfl, hb⟩
      have h1 := sub_trans (HB0.out _) hb
      have g1 := (HBX.out w).later hb
      have c0 := g1.cell 0
      have c1 := g1.cell 1
      have c2 := g1.cell 2
      have c3 := g1.cell 3
      have c4 := g1.cell 4
      simp at c0 c1 c2 c3 c4
      clear hb
      go_wp2_with fail
      refine (HPL.out _).mono ?_
      rintro x w2 ⟨rfl, hb⟩
      have h2 := sub_trans h1 hb
      have g2 := g1.later hb
      have c0 := g2.cell 0
      have c1 := g2.cell 1
      have c2 := g2.cell 2
      have c3 := g2.cell 3
      have c4 := g2.cell 4
      simp at c0 c1 c2 c3 c4
      clear hb h1 g1
      go_wp2
      go_ret
      exact ⟨ret_i HF2.out.symm, h2⟩
  · by_cases h3 : pl = 0
    · subst h3
      have HF2 := Lib.hid (show res = hi by rw [HF.out, if_neg (by decide), if_neg (by decide), if_pos rfl, if_pos rfl])
      go_enter Tryd.func12, Tryd.ntmps12
      go_wp2_with fail
      refine (HC.out _).mono ?_
      rintro x w1 ⟨rfl, hb⟩
      have h1 := sub_trans (HB0.out _) hb
      have g1 := (HBX.out w).later hb
      have c0 := g1.cell 0
      have c1 := g1.cell 1
      have c2 := g1.cell 2
      have c3 := g1.cell 3
      have c4 := g1.cell 4
      simp at c0 c1 c2 c3 c4
      clear hb
      go_wp2_with fail
      refine (HPL.out _).mono ?_
      rintro x w2 ⟨rfl, hb⟩
      have h2 := sub_trans h1 hb
      have g2 := g1.later hb
      have c0 := g2.cell 0
      have c1 := g2.cell 1
      have c2 := g2.cell 2
      have c3 := g2.cell 3
      have c4 := g2.cell 4
      simp at c0 c1 c2 c3 c4
      clear hb h1 g1
      go_wp2
      go_ret
      exact ⟨ret_i HF2.out.symm, h2⟩
    · have HF2 := Lib.hid (show res = lo by rw [HF.out, if_neg (by decide), if_neg (by decide), if_pos rfl, if_neg h3])
      go_enter Tryd.func12, Tryd.ntmps12
      go_wp2_with fail
      refine (HC.out _).mono ?_
      rintro x w1 ⟨rfl, hb⟩
      have h1 := sub_trans (HB0.out _) hb
      have g1 := (HBX.out w).later hb
      have c0 := g1.cell 0
      have c1 := g1.cell 1
      have c2 := g1.cell 2
      have c3 := g1.cell 3
      have c4 := g1.cell 4
      simp at c0 c1 c2 c3 c4
      clear hb
      go_wp2_with fail
      refine (HPL.out _).mono ?_
      rintro x w2 ⟨rfl, hb⟩
      have h2 := sub_trans h1 hb
      have g2 := g1.later hb
      have c0 := g2.cell 0
      have c1 := g2.cell 1
      have c2 := g2.cell 2
      have c3 := g2.cell 3
      have c4 := g2.cell 4
      simp at c0 c1 c2 c3 c4
      clear hb h1 g1
      go_wp2
      go_ret
      exact ⟨ret_i HF2.out.symm, h2⟩
  · by_cases h3 : pl ≤ p - pl
    · go_enter Tryd.func12, Tryd.ntmps12
      go_wp2_with fail
      refine (HC.out _).mono ?_
      rintro x w1 ⟨rfl, hb⟩
      have h1 := sub_trans (HB0.out _) hb
      have g1 := (HBX.out w).later hb
      have c0 := g1.cell 0
      have c1 := g1.cell 1
      have c2 := g1.cell 2
      have c3 := g1.cell 3
      have c4 := g1.cell 4
      simp at c0 c1 c2 c3 c4
      clear hb
      have e2 : min pl (p - pl) = pl := by omega
      rw [e2] at HF
      have e3 : IntKind.i64.wrap (2 * pl) = 2 * pl := IntWalk.i64_in _ (by omega)
      go_wp2_with fail
      refine (HPL.out _).mono ?_
      rintro x w2 ⟨rfl, hb⟩
      have h2 := sub_trans h1 hb
      have g2 := g1.later hb
      have c0 := g2.cell 0
      have c1 := g2.cell 1
      have c2 := g2.cell 2
      have c3 := g2.cell 3
      have c4 := g2.cell 4
      simp at c0 c1 c2 c3 c4
      clear hb h1 g1
      go_wp2_with fail
      refine (HPA.out (2 * pl) w2 (by omega) (by omega)).mono ?_
      rintro x w3 ⟨rfl, hb⟩
      have h3 := sub_trans h2 hb
      clear hb
      go_wp2
      go_ret
      exact ⟨by rw [HF.out]; rfl, h3⟩
    · go_enter Tryd.func12, Tryd.ntmps12
      go_wp2_with fail
      refine (HC.out _).mono ?_
      rintro x w1 ⟨rfl, hb⟩
      have h1 := sub_trans (HB0.out _) hb
      have g1 := (HBX.out w).later hb
      have c0 := g1.cell 0
      have c1 := g1.cell 1
      have c2 := g1.cell 2
      have c3 := g1.cell 3
      have c4 := g1.cell 4
      simp at c0 c1 c2 c3 c4
      clear hb
      have e2 : min pl (p - pl) = p - pl := by omega
      rw [e2] at HF
      have e3 : IntKind.i64.wrap (2 * (p - pl)) = 2 * (p - pl) := IntWalk.i64_in _ (by omega)
      go_wp2_with fail
      refine (HPL.out _).mono ?_
      rintro x w2 ⟨rfl, hb⟩
      have h2 := sub_trans h1 hb
      have g2 := g1.later hb
      have c0 := g2.cell 0
      have c1 := g2.cell 1
      have c2 := g2.cell 2
      have c3 := g2.cell 3
      have c4 := g2.cell 4
      simp at c0 c1 c2 c3 c4
      clear hb h1 g1
      go_wp2_with fail
      refine (HPA.out (2 * (p - pl)) w2 (by omega) (by omega)).mono ?_
      rintro x w3 ⟨rfl, hb⟩
      have h3 := sub_trans h2 hb
      clear hb
      go_wp2
      go_ret
      exact ⟨by rw [HF.out]; rfl, h3⟩
end Go.Proofs.YtcmnlnnhebdblaaDoor
