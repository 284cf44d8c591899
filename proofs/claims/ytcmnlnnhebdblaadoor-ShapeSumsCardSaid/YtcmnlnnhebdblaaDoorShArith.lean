/-
  The arithmetic behind a shape's values: Mul, Div, Small of wide numbers, rests, walked (chapter 54). Condition: none but numbers of 64 bits.
-/
import Derived.Test.YtcmnlnnhebdblaaDoorShCheck
import Derived.Test.YtcmnlnnhebdblaaDoorOwn
import Derived.Test.YtcmnlnnhebdblaaDoorStill
namespace Go.Proofs.YtcmnlnnhebdblaaDoor
open Go.RowKit Go.Fw
set_option maxHeartbeats 1000000
set_option maxRecDepth 4000
set_option linter.unusedVariables false
set_option linter.unusedSimpArgs false
abbrev uw (x : Int) : Int := IntKind.u64.wrap x
abbrev an (x y : Int) : Int := bits BinOp.and IntKind.u64 x y
abbrev orr (x y : Int) : Int := bits BinOp.or IntKind.u64 x y
def mulLow (a b : Int) : Int := uw (an a 4294967295 * an b 4294967295)
def mulMid0 (a b : Int) : Int := uw (uw (a / 4294967296 * an b 4294967295) + mulLow a b / 4294967296)
def mulMid (a b : Int) : Int := uw (an (mulMid0 a b) 4294967295 + uw (an a 4294967295 * (b / 4294967296)))
def mulHi (a b : Int) : Int := uw (uw (uw (a / 4294967296 * (b / 4294967296)) + mulMid0 a b / 4294967296) + mulMid a b / 4294967296)
def mulLo (a b : Int) : Int := orr (uw (mulMid a b * 4294967296)) (an (mulLow a b) 4294967295)
theorem mul_any (a b : Int) (w : World) :
    Calls Tryd.prog 35 #[.int .u64 a, .int .u64 b] w fun x w' => x = .returned (.agg #[.int .u64 (mulHi a b), .int .u64 (mulLo a b)]) ∧ Below w.heap.size w w' := by
  have hb := fun o => sub_alloc (Below.refl _ w) o
  go_enter Tryd.func35, Tryd.ntmps35
  go_wp2
  exact bodyPost_ret (v := .agg #[.int .u64 (mulHi a b), .int .u64 (mulLo a b)]) (by simp [results, Tryd.results35, go_sem, mulHi, mulLo, mulMid, mulMid0, mulLow]) rfl ⟨rfl, hb _⟩
def smallN (hi lo : Int) : Int := if hi ≠ 0 ∨ 9223372036854775807 < lo then 9223372036854775807 else wrap64 lo
theorem small_any (hi lo : Int) (w : World) :
    Calls Tryd.prog 36 #[.agg #[.int .u64 hi, .int .u64 lo]] w fun x w' => x = .returned (.int .i64 (smallN hi lo)) ∧ Below w.heap.size w w' := by
  unfold smallN
  by_cases h1 : hi = 0
  · subst h1
    by_cases h2 : 9223372036854775807 < lo
    · rw [if_pos (.inr h2)]
      go_enter Tryd.func36, Tryd.ntmps36
      go_wp2
      go_ret
      exact ⟨rfl, sub_alloc (Below.refl _ w) _⟩
    · rw [if_neg (by omega)]
      go_enter Tryd.func36, Tryd.ntmps36
      go_wp2
      go_ret
      exact ⟨by first | rfl | simp, sub_alloc (Below.refl _ w) _⟩
  · rw [if_pos (.inl h1)]
    go_enter Tryd.func36, Tryd.ntmps36
    go_wp2
    go_ret
    exact ⟨rfl, sub_alloc (Below.refl _ w) _⟩
def restN (n by_ : Int) : Int := if n.tmod by_ < 0 then wrap64 (n.tmod by_ + by_) else n.tmod by_
theorem restN_in {n b : Int} (hn : In64 n) (hb : 1 ≤ b) (hb2 : b ≤ 2147483648) : 0 ≤ restN n b ∧ restN n b < b := by
  have h1 := Int.tmod_lt_of_pos n (show 0 < b by omega)
  have h2 : -b < n.tmod b := by
    have := Int.tmod_lt_of_pos (-n) (show 0 < b by omega)
    rw [Int.neg_tmod] at this
    omega
  unfold restN wrap64
  split <;> omega
theorem rest_any (n by_ : Int) (w : World) (hn : In64 n) (hb : 1 ≤ by_) (hb2 : by_ ≤ 2147483648) :
    Calls Tryd.prog 33 #[.int .i64 n, .int .i64 by_] w fun x w' => x = .returned (.int .i64 (restN n by_)) ∧ w = w' := by
  have ht : n.tmod by_ < 0 ∨ ¬ n.tmod by_ < 0 := Decidable.em _
  obtain ⟨n0, n1⟩ := hn
  unfold restN
  by_cases ht : n.tmod by_ < 0
  · rw [if_pos ht]
    go_enter Tryd.func33, Tryd.ntmps33
    go_wp2
    go_ret
    exact ⟨rfl, rfl⟩
  · rw [if_neg ht]
    go_enter Tryd.func33, Tryd.ntmps33
    go_wp2
    go_ret
    exact ⟨rfl, rfl⟩
theorem shl_one (n : Int) (h0 : 0 ≤ n) (h1 : n ≤ 63) : Op.shift .shl .u64 1 .i64 n = pure (.int .u64 (uw (2 ^ n.toNat))) := by
  have := shift_shl .u64 .i64 1 n h0 (by simp [IntKind.bits]; omega)
  rw [Int.one_mul] at this
  exact this
structure DivS where
  hi : Int
  lo : Int
  r : Int
  qh : Int
  ql : Int
def divR (s : DivS) : Int := orr (uw (s.r * 2)) (s.hi / 9223372036854775808)
def divStep (d : Int) (i : Nat) (s : DivS) : DivS :=
  let r1 := divR s
  let hi1 := orr (uw (s.hi * 2)) (s.lo / 9223372036854775808)
  let lo1 := uw (s.lo * 2)
  if s.r / 9223372036854775808 = 0 ∧ r1 < d then ⟨hi1, lo1, r1, s.qh, s.ql⟩
  else if i < 64 then ⟨hi1, lo1, uw (r1 - d), orr s.qh (uw (2 ^ (63 - i))), s.ql⟩
  else ⟨hi1, lo1, uw (r1 - d), s.qh, orr s.ql (uw (2 ^ (127 - i)))⟩
def divAt (hi lo d : Int) : Nat → DivS
  | 0 => ⟨hi, lo, 0, 0, 0⟩
  | i + 1 => divStep d i (divAt hi lo d i)
theorem divStep_lt {d : Int} {k : Nat} {s : DivS} (h : ¬ (s.r / 9223372036854775808 = 0 ∧ divR s < d)) (h6 : k < 64) : divStep d k s = ⟨orr (uw (s.hi * 2)) (s.lo / 9223372036854775808), uw (s.lo * 2), uw (divR s - d), orr s.qh (uw (2 ^ (63 - k))), s.ql⟩ := by
  unfold divStep
  rw [if_neg h, if_pos h6]
theorem divStep_ge {d : Int} {k : Nat} {s : DivS} (h : ¬ (s.r / 9223372036854775808 = 0 ∧ divR s < d)) (h6 : ¬ k < 64) : divStep d k s = ⟨orr (uw (s.hi * 2)) (s.lo / 9223372036854775808), uw (s.lo * 2), uw (divR s - d), s.qh, orr s.ql (uw (2 ^ (127 - k)))⟩ := by
  unfold divStep
  rw [if_neg h, if_neg h6]
theorem div_any (hi lo d : Int) (w : World) (hd : d ≠ 0) :
    Calls Tryd.prog 34 #[.agg #[.int .u64 hi, .int .u64 lo], .int .u64 d] w fun x w' => x = .returned (.tuple #[.agg #[.int .u64 (divAt hi lo d 128).qh, .int .u64 (divAt hi lo d 128).ql], .int .u64 (divAt hi lo d 128).r, .bool true]) ∧ Below w.heap.size w w' := by
  go_enter Tryd.func34, Tryd.ntmps34
  go_wp2
  simp only [Nat.add_assoc, Nat.reduceAdd]
  obtain ⟨WA, hWA⟩ : ∃ WA, ((w.alloc (.cells #[.int .u64 hi, .int .u64 lo] 73)).alloc (.cells #[.int .u64 0, .int .u64 0] 73)).alloc (.cells #[.int .u64 0, .int .u64 0] 73) = WA := ⟨_, rfl⟩
  have hsz : WA.heap.size = w.heap.size + 3 := by rw [← hWA]; simp
  have b0 : Blk WA w.heap.size 73 #[.int .u64 hi, .int .u64 lo] := by rw [← hWA]; exact ((Blk.new_at w 73 #[.int .u64 hi, .int .u64 lo] rfl).alloc _).alloc _
  have b1 : Blk WA (w.heap.size + 1) 73 #[.int .u64 0, .int .u64 0] := by rw [← hWA]; exact (Blk.new_at _ 73 _ (by simp)).alloc _
  have b2 : Blk WA (w.heap.size + 2) 73 #[.int .u64 0, .int .u64 0] := by rw [← hWA]; exact Blk.new_at _ 73 _ (by simp)
  have hbA : Below w.heap.size w WA := by rw [← hWA]; exact sub_alloc (sub_alloc (sub_alloc (Below.refl _ w) _) _) _
  rw [hWA]
  clear hWA
  have hd0 : (d == 0) = false := by simpa using hd
  simp only [hd0]
  go_loopw [8, 14] (fun r i wr => ∃ k : Nat, k ≤ 128 ∧ i = .int .i64 k ∧ r = .int .u64 (divAt hi lo d k).r ∧ Blk wr w.heap.size 73 #[.int .u64 (divAt hi lo d k).hi, .int .u64 (divAt hi lo d k).lo] ∧ Blk wr (w.heap.size + 1) 73 #[.int .u64 0, .int .u64 0] ∧ Blk wr (w.heap.size + 2) 73 #[.int .u64 (divAt hi lo d k).qh, .int .u64 (divAt hi lo d k).ql] ∧ Below w.heap.size w wr)
    (fun r i _ => 128 - (intOf i).toNat)
  case atStart => exact ⟨0, Nat.zero_le _, rfl, rfl, b0, b1, b2, hbA⟩
  case round =>
    obtain ⟨k, hk, rfl, rfl, g0, g1, g2, hW⟩ := hrel
    by_cases hlt : k < 128
    · have hst : divAt hi lo d (k + 1) = divStep d k (divAt hi lo d k) := rfl
      generalize divAt hi lo d k = s at *
      have c0 := g0.cell 0
      have c1 := g0.cell 1
      have d0 := g2.cell 0
      have d1 := g2.cell 1
      have f0 := g0.frozen
      have f2 := g2.frozen
      simp at c0 c1 d0 d1
      have gA := (g0.set_ 0 (.int .u64 (orr (uw (s.hi * 2)) (s.lo / 9223372036854775808)))).set_ 1 (.int .u64 (uw (s.lo * 2)))
      have gB : Blk ((wr.setCell ⟨w.heap.size, 0, none⟩ (.int .u64 (orr (uw (s.hi * 2)) (s.lo / 9223372036854775808)))).setCell ⟨w.heap.size, 1, none⟩ (.int .u64 (uw (s.lo * 2)))) (w.heap.size + 1) 73 #[.int .u64 0, .int .u64 0] := (g1.far (p := ⟨w.heap.size, 0, none⟩) (by simp) _).far (p := ⟨w.heap.size, 1, none⟩) (by simp) _
      have gC : Blk ((wr.setCell ⟨w.heap.size, 0, none⟩ (.int .u64 (orr (uw (s.hi * 2)) (s.lo / 9223372036854775808)))).setCell ⟨w.heap.size, 1, none⟩ (.int .u64 (uw (s.lo * 2)))) (w.heap.size + 2) 73 #[.int .u64 s.qh, .int .u64 s.ql] := (g2.far (p := ⟨w.heap.size, 0, none⟩) (by simp) _).far (p := ⟨w.heap.size, 1, none⟩) (by simp) _
      have gW := (hW.setCell (p := ⟨w.heap.size, 0, none⟩) (Nat.le_refl _) (.int .u64 (orr (uw (s.hi * 2)) (s.lo / 9223372036854775808)))).setCell (p := ⟨w.heap.size, 1, none⟩) (Nat.le_refl _) (.int .u64 (uw (s.lo * 2)))
      simp at gA
      have HG := Lib.hid (And.intro gA (And.intro gB (And.intro gC gW)))
      clear gA gB gC gW g0 g1 g2 hW
      by_cases h1 : s.r / 9223372036854775808 = 0
      · have e : IntKind.u64.wrap (s.r * 2) = s.r * 2 := IntWalk.u64_in _ (by omega)
        by_cases h2 : divR s < d
        · have hn : divStep d k s = ⟨orr (uw (s.hi * 2)) (s.lo / 9223372036854775808), uw (s.lo * 2), divR s, s.qh, s.ql⟩ := by
            unfold divStep
            exact if_pos ⟨h1, h2⟩
          have HS := Lib.hid (hst.trans hn)
          clear hst hn
          have h2' := h2
          simp only [divR, orr, uw, e] at h2'
          go_wp2
          go_roundw
          case rel => exact ⟨k + 1, by omega, by go_num, by rw [HS.out]; simp only [divR, orr, uw, e], by rw [HS.out]; exact HG.out.1, HG.out.2.1, by rw [HS.out]; exact HG.out.2.2.1, HG.out.2.2.2⟩
          case measure => simp [intOf]; omega
        · have hno : ¬ (s.r / 9223372036854775808 = 0 ∧ divR s < d) := fun h => h2 h.2
          have h2' := h2
          simp only [divR, orr, uw, e] at h2'
          by_cases h6 : k < 64
          · have hk6 : (k : Int) < 64 := by omega
            have HS := Lib.hid (hst.trans (divStep_lt hno h6))
            clear hst hno
            have gA := HG.out.1.drew.far (p := ⟨w.heap.size + 2, 0, none⟩) (by simp) (.int .u64 (orr s.qh (uw (2 ^ (63 - k)))))
            have gB := HG.out.2.1.drew.far (p := ⟨w.heap.size + 2, 0, none⟩) (by simp) (.int .u64 (orr s.qh (uw (2 ^ (63 - k)))))
            have gC := HG.out.2.2.1.drew.set_ 0 (.int .u64 (orr s.qh (uw (2 ^ (63 - k)))))
            have gW := HG.out.2.2.2.drew.setCell (p := ⟨w.heap.size + 2, 0, none⟩) (by simp) (.int .u64 (orr s.qh (uw (2 ^ (63 - k)))))
            change Blk _ _ _ #[(.int .u64 (orr s.qh (uw (2 ^ (63 - k))))), .int .u64 s.ql] at gC
            have HF := Lib.hid (And.intro gA (And.intro gB (And.intro gC gW)))
            clear gA gB gC gW HG
            go_wp2
            have hsh := shl_one (63 - (k : Int)) (by omega) (by omega)
            rw [show (63 - (k : Int)).toNat = 63 - k by omega] at hsh
            have hwr : IntKind.i64.wrap (63 - (k : Int)) = 63 - (k : Int) := IntWalk.i64_in _ (by omega)
            refine still_start 6 (by kernel_rfl) (by kernel_rfl) ?_
            simp only [List.take_succ_cons, List.take_zero, List.drop_succ_cons, List.drop_zero]
            repeat still_step
            refine wpStill_nil ?_
            go_wp2
            go_roundw
            case rel => exact ⟨k + 1, by omega, by go_num, by rw [HS.out]; simp only [divR, orr, uw, e], by rw [HS.out]; exact HF.out.1, HF.out.2.1, by rw [HS.out]; exact HF.out.2.2.1, HF.out.2.2.2⟩
            case measure => simp [intOf]; omega
          · have hk6 : ¬ (k : Int) < 64 := by omega
            have HS := Lib.hid (hst.trans (divStep_ge hno h6))
            clear hst hno
            have gA := HG.out.1.drew.far (p := ⟨w.heap.size + 2, 1, none⟩) (by simp) (.int .u64 (orr s.ql (uw (2 ^ (127 - k)))))
            have gB := HG.out.2.1.drew.far (p := ⟨w.heap.size + 2, 1, none⟩) (by simp) (.int .u64 (orr s.ql (uw (2 ^ (127 - k)))))
            have gC := HG.out.2.2.1.drew.set_ 1 (.int .u64 (orr s.ql (uw (2 ^ (127 - k)))))
            have gW := HG.out.2.2.2.drew.setCell (p := ⟨w.heap.size + 2, 1, none⟩) (by simp) (.int .u64 (orr s.ql (uw (2 ^ (127 - k)))))
            change Blk _ _ _ #[.int .u64 s.qh, (.int .u64 (orr s.ql (uw (2 ^ (127 - k)))))] at gC
            have HF := Lib.hid (And.intro gA (And.intro gB (And.intro gC gW)))
            clear gA gB gC gW HG
            go_wp2
            have hsh := shl_one (127 - (k : Int)) (by omega) (by omega)
            rw [show (127 - (k : Int)).toNat = 127 - k by omega] at hsh
            have hwr : IntKind.i64.wrap (127 - (k : Int)) = 127 - (k : Int) := IntWalk.i64_in _ (by omega)
            refine still_start 6 (by kernel_rfl) (by kernel_rfl) ?_
            simp only [List.take_succ_cons, List.take_zero, List.drop_succ_cons, List.drop_zero]
            repeat still_step
            refine wpStill_nil ?_
            go_wp2
            go_roundw
            case rel => exact ⟨k + 1, by omega, by go_num, by rw [HS.out]; simp only [divR, orr, uw, e], by rw [HS.out]; exact HF.out.1, HF.out.2.1, by rw [HS.out]; exact HF.out.2.2.1, HF.out.2.2.2⟩
            case measure => simp [intOf]; omega
      · have hno : ¬ (s.r / 9223372036854775808 = 0 ∧ divR s < d) := fun h => h1 h.1
        by_cases h6 : k < 64
        · have hk6 : (k : Int) < 64 := by omega
          have HS := Lib.hid (hst.trans (divStep_lt hno h6))
          clear hst hno
          have gA := HG.out.1.drew.far (p := ⟨w.heap.size + 2, 0, none⟩) (by simp) (.int .u64 (orr s.qh (uw (2 ^ (63 - k)))))
          have gB := HG.out.2.1.drew.far (p := ⟨w.heap.size + 2, 0, none⟩) (by simp) (.int .u64 (orr s.qh (uw (2 ^ (63 - k)))))
          have gC := HG.out.2.2.1.drew.set_ 0 (.int .u64 (orr s.qh (uw (2 ^ (63 - k)))))
          have gW := HG.out.2.2.2.drew.setCell (p := ⟨w.heap.size + 2, 0, none⟩) (by simp) (.int .u64 (orr s.qh (uw (2 ^ (63 - k)))))
          change Blk _ _ _ #[(.int .u64 (orr s.qh (uw (2 ^ (63 - k))))), .int .u64 s.ql] at gC
          have HF := Lib.hid (And.intro gA (And.intro gB (And.intro gC gW)))
          clear gA gB gC gW HG
          go_wp2
          have hsh := shl_one (63 - (k : Int)) (by omega) (by omega)
          rw [show (63 - (k : Int)).toNat = 63 - k by omega] at hsh
          have hwr : IntKind.i64.wrap (63 - (k : Int)) = 63 - (k : Int) := IntWalk.i64_in _ (by omega)
          refine still_start 6 (by kernel_rfl) (by kernel_rfl) ?_
          simp only [List.take_succ_cons, List.take_zero, List.drop_succ_cons, List.drop_zero]
          repeat still_step
          refine wpStill_nil ?_
          go_wp2
          go_roundw
          case rel => exact ⟨k + 1, by omega, by go_num, by rw [HS.out]; rfl, by rw [HS.out]; exact HF.out.1, HF.out.2.1, by rw [HS.out]; exact HF.out.2.2.1, HF.out.2.2.2⟩
          case measure => simp [intOf]; omega
        · have hk6 : ¬ (k : Int) < 64 := by omega
          have HS := Lib.hid (hst.trans (divStep_ge hno h6))
          clear hst hno
          have gA := HG.out.1.drew.far (p := ⟨w.heap.size + 2, 1, none⟩) (by simp) (.int .u64 (orr s.ql (uw (2 ^ (127 - k)))))
          have gB := HG.out.2.1.drew.far (p := ⟨w.heap.size + 2, 1, none⟩) (by simp) (.int .u64 (orr s.ql (uw (2 ^ (127 - k)))))
          have gC := HG.out.2.2.1.drew.set_ 1 (.int .u64 (orr s.ql (uw (2 ^ (127 - k)))))
          have gW := HG.out.2.2.2.drew.setCell (p := ⟨w.heap.size + 2, 1, none⟩) (by simp) (.int .u64 (orr s.ql (uw (2 ^ (127 - k)))))
          change Blk _ _ _ #[.int .u64 s.qh, (.int .u64 (orr s.ql (uw (2 ^ (127 - k)))))] at gC
          have HF := Lib.hid (And.intro gA (And.intro gB (And.intro gC gW)))
          clear gA gB gC gW HG
          go_wp2
          have hsh := shl_one (127 - (k : Int)) (by omega) (by omega)
          rw [show (127 - (k : Int)).toNat = 127 - k by omega] at hsh
          have hwr : IntKind.i64.wrap (127 - (k : Int)) = 127 - (k : Int) := IntWalk.i64_in _ (by omega)
          refine still_start 6 (by kernel_rfl) (by kernel_rfl) ?_
          simp only [List.take_succ_cons, List.take_zero, List.drop_succ_cons, List.drop_zero]
          repeat still_step
          refine wpStill_nil ?_
          go_wp2
          go_roundw
          case rel => exact ⟨k + 1, by omega, by go_num, by rw [HS.out]; rfl, by rw [HS.out]; exact HF.out.1, HF.out.2.1, by rw [HS.out]; exact HF.out.2.2.1, HF.out.2.2.2⟩
          case measure => simp [intOf]; omega
    · obtain rfl : k = 128 := by omega
      have c0 := g2.cell 0
      have c1 := g2.cell 1
      have f1 := g1.frozen
      have d0 := g1.cell 0
      have d1 := g1.cell 1
      simp at c0 c1 d0 d1
      have gz := (g1.set_ 0 (.int .u64 (divAt hi lo d 128).qh)).set_ 1 (.int .u64 (divAt hi lo d 128).ql)
      have hz := (hW.setCell (p := ⟨w.heap.size + 1, 0, none⟩) (by simp) (.int .u64 (divAt hi lo d 128).qh)).setCell (p := ⟨w.heap.size + 1, 1, none⟩) (by simp) (.int .u64 (divAt hi lo d 128).ql)
      have HZ := Lib.hid (And.intro gz hz)
      clear gz hz
      go_wp2
      have z0 := HZ.out.1.cell 0
      have z1 := HZ.out.1.cell 1
      simp at z0 z1
      exact bodyPost_ret (v := .tuple #[.agg #[.int .u64 (divAt hi lo d 128).qh, .int .u64 (divAt hi lo d 128).ql], .int .u64 (divAt hi lo d 128).r, .bool true]) (by simp [results, Tryd.results34, go_sem, z0, z1]) rfl ⟨rfl, HZ.out.2⟩
end Go.Proofs.YtcmnlnnhebdblaaDoor
