/-
  Histories: Last; the reference's Put and Same on lists of decisions. Conditions: lists of at most 100000 decisions.
-/
import Derived.Test.YtgmgddccdfmiiaaHis
import Derived.Laws.StructEq
namespace Go.Fw
open Go.RowKit
set_option linter.unusedVariables false
/-- the last decisions behind one more -/
def putL (l : List Adv) (room : Nat) (a : Adv) : List Adv := if room < l.length + 1 then (l ++ [a]).tail else l ++ [a]
theorem putL_last {l : List Adv} {n : Nat} (hn : 1 ≤ n) (a : Adv) : putL (lastN l n) n a = lastN (l ++ [a]) n := by
  unfold putL
  by_cases h : l.length < n
  · rw [if_neg (by rw [lastN_length]; omega), lastN_push_few h]
  · rw [if_pos (by rw [lastN_length]; omega), lastN_push_full (by omega) hn]
    have hl : 0 < (lastN l n).length := by rw [lastN_length]; omega
    rcases hL : lastN l n with _ | ⟨y, t⟩
    · rw [hL] at hl; simp at hl
    · rfl
theorem Rg.push_snoc {α : Type} {r : Rg α} (h : r.ok) (x : α) : ∃ L, (r.push x).list = L ++ [x] := by
  by_cases hlt : r.items.length < r.room
  · exact ⟨_, Rg.push_few h hlt x⟩
  · exact ⟨_, Rg.push_full h hlt x⟩
end Go.Fw
namespace Go.Proofs.Ytgmgddccdfmiiaa
open Go.RowKit Go.Fw
set_option maxHeartbeats 1000000
set_option maxRecDepth 4000
set_option linter.unusedVariables false
set_option linter.unusedSimpArgs false
theorem adv_neq (x1 x2 x3 x4 x5 y1 y2 y3 y4 y5 : Int) (w : World) : (binOp .neq 53 (.agg #[.int .i64 x1, .int .i64 x2, .int .i64 x3, .int .i64 x4, .int .i64 x5]) (.agg #[.int .i64 y1, .int .i64 y2, .int .i64 y3, .int .i64 y4, .int .i64 y5])).run Try.prog w = .ok (.bool (!(x1 == y1 && (x2 == y2 && (x3 == y3 && (x4 == y4 && x5 == y5)))))) w := by
  have hp : Try.prog.stoodInHeld 53 = false := by kernel_rfl
  rw [run_neq_struct, run_equalIn_agg w 9999 53 _ _ (by simp only [Program.fieldsOf, Try.underlying53]) hp]
  simp only [Program.fieldsOf, Try.underlying53]
  simp [Op.eqFields, go_sem, Try.underlying3, Try.underlying2]
  by_cases h1 : x1 = y1 <;> by_cases h2 : x2 = y2 <;> by_cases h3 : x3 = y3 <;> by_cases h4 : x4 = y4 <;> by_cases h5 : x5 = y5 <;> simp [h1, h2, h3, h4, h5]
theorem hlast_nil (w : World) : Calls Try.prog 37 #[.pointer none] w fun e w' => e = .returned (.tuple #[Adv.zero.val, .bool false]) ∧ Below w.heap.size w w' := by
  have hb : Below w.heap.size w (w.alloc (.cells (Adv.arr ⟨0, 0, 0, 0, 0⟩) 53)) := sub_alloc (Below.refl _ _) _
  have b4 : Blk (w.alloc (.cells (Adv.arr ⟨0, 0, 0, 0, 0⟩) 53)) w.heap.size 53 (Adv.arr ⟨0, 0, 0, 0, 0⟩) := Blk.new_at _ _ _ rfl
  have HL := Lib.hid (vlast_none none (w.alloc (.cells (Adv.arr ⟨0, 0, 0, 0, 0⟩) 53)) (vlen_nil _))
  unfold Adv.arr at *
  unfold Adv.val Adv.zero at *
  simp only at *
  go_enter Try.func37, Try.ntmps37
  go_wp2_with (go_at_call 52; refine (hkept_nil _).mono ?_; rintro e w' ⟨rfl, rfl⟩)
  refine HL.out.mono ?_
  rintro e w1 ⟨rfl, hb1⟩
  have b5 := b4.later hb1
  have hb5 := sub_trans hb hb1
  clear HL
  generalize (w.alloc (.cells #[.int .i64 0, .int .i64 0, .int .i64 0, .int .i64 0, .int .i64 0] 53)) = W4 at *
  obtain ⟨f0, f1, f2, f3, f4⟩ := b5.free5
  obtain ⟨g0, g1, g2, g3, g4⟩ := Blk.five (a := ⟨0, 0, 0, 0, 0⟩) b5
  simp only at g0 g1 g2 g3 g4
  have bo9 := b5.set5 ⟨0, 0, 0, 0, 0⟩
  have k9 := Below.set5 hb5 (Nat.le_refl _) 0 ⟨0, 0, 0, 0, 0⟩
  obtain ⟨z0, z1, z2, z3, z4⟩ := bo9.five
  unfold set5 at z0 z1 z2 z3 z4 k9
  simp only [Nat.zero_add] at z0 z1 z2 z3 z4 k9
  clear bo9 b5 hb5 hb1
  go_wp2
  refine bodyPost_ret (v := .tuple #[.agg #[.int .i64 0, .int .i64 0, .int .i64 0, .int .i64 0, .int .i64 0], .bool false]) (by simp [results, Try.results37, go_sem, z0, z1, z2, z3, z4]) rfl ⟨rfl, k9⟩
theorem hlast_any (q p B : Nat) (sl : Value) (r : Rg Adv) (w : World) (L : List Adv) (x : Adv) (h : HAt w q p B sl r) (hL : r.list = L ++ [x]) :
    Calls Try.prog 37 #[.pointer (some ⟨q, 0, none⟩)] w fun e w' => e = .returned (.tuple #[x.val, .bool true]) ∧ Below w.heap.size w w' := by
  have hb : Below w.heap.size w (w.alloc (.cells (Adv.arr ⟨0, 0, 0, 0, 0⟩) 53)) := sub_alloc (Below.refl _ _) _
  have b4 : Blk (w.alloc (.cells (Adv.arr ⟨0, 0, 0, 0, 0⟩) 53)) w.heap.size 53 (Adv.arr ⟨0, 0, 0, 0, 0⟩) := Blk.new_at _ _ _ rfl
  have hlen : 0 < r.list.length := by rw [hL]; simp
  have HV := vlast_any p B sl r _ (h.rg.up hb) hlen
  have hx : r.list[r.list.length - 1]'(Nat.sub_lt hlen Nat.one_pos) = x := by simp [hL]
  rw [hx] at HV
  have HL := Lib.hid HV
  have H2 := h.up hb
  clear HV hL hx h
  obtain ⟨x1, x2, x3, x4, x5⟩ := x
  unfold Adv.arr at *
  unfold Adv.val at *
  simp only at *
  go_enter Try.func37, Try.ntmps37
  go_wp2_with (go_at_call 52; refine (hkept_any _ _ _ _ _ _ H2).mono ?_; rintro e w' ⟨rfl, rfl⟩)
  refine HL.out.mono ?_
  rintro e w1 ⟨rfl, hb1⟩
  have b5 := b4.later hb1
  have hb5 := sub_trans hb hb1
  clear HL H2
  generalize (w.alloc (.cells #[.int .i64 0, .int .i64 0, .int .i64 0, .int .i64 0, .int .i64 0] 53)) = W4 at *
  obtain ⟨f0, f1, f2, f3, f4⟩ := b5.free5
  obtain ⟨g0, g1, g2, g3, g4⟩ := Blk.five (a := ⟨0, 0, 0, 0, 0⟩) b5
  simp only at g0 g1 g2 g3 g4
  have bo9 := b5.set5 ⟨x1, x2, x3, x4, x5⟩
  have k9 := Below.set5 hb5 (Nat.le_refl _) 0 ⟨x1, x2, x3, x4, x5⟩
  obtain ⟨z0, z1, z2, z3, z4⟩ := bo9.five
  unfold set5 at z0 z1 z2 z3 z4 k9
  simp only [Nat.zero_add] at z0 z1 z2 z3 z4 k9
  clear bo9 b5 hb5 hb1
  go_wp2
  refine bodyPost_ret (v := .tuple #[.agg #[.int .i64 x1, .int .i64 x2, .int .i64 x3, .int .i64 x4, .int .i64 x5], .bool true]) (by simp [results, Try.results37, go_sem, z0, z1, z2, z3, z4]) rfl ⟨rfl, k9⟩
/-- a list is like itself -/
theorem same14_any (xs : List Adv) (A A2 : Option Addr) (c c2 n m B : Nat) (w : World) (hx : Reads w B 5 A n (advs xs)) (hy : Reads w B 5 A2 m (advs xs)) (hn : n ≤ 100000) :
    Calls Try.prog 43 #[.slice A n c, .slice A2 m c2] w fun e w' => e = .returned (.bool true) ∧ Below w.heap.size w w' := by
  have ex := adv_len hx
  have ey := adv_len hy
  obtain rfl : m = n := by omega
  have h1 : ((m : Int) != (m : Int)) = false := by simp
  have EX := Lib.hid ex
  clear ex ey
  go_enter Try.func43, Try.ntmps43
  go_wp2
  go_loopw [5] (fun i wr => ∃ (k : Nat), k ≤ m ∧ i = .int .i64 k ∧ Hid (∃ nq, wr = w.drewN nq)) (fun i _ => m - (intOf i).toNat)
  case atStart => exact ⟨0, by omega, rfl, Lib.hid ⟨0, rfl⟩⟩
  case round =>
    obtain ⟨k, hk, rfl, HW⟩ := hrel
    obtain ⟨nq, rfl⟩ := HW.out
    clear HW
    by_cases hlt : k < m
    · have hkx : k < xs.length := by have := EX.out; omega
      obtain ⟨b, o, rfl, _, p0, p1, p2, p3, p4⟩ := adv_at hx hkx
      obtain ⟨b2, o2, rfl, _, r0, r1, r2, r3, r4⟩ := adv_at hy hkx
      have HX := Lib.hid hx
      have HY := Lib.hid hy
      clear hx hy
      generalize xs[k] = x at *
      obtain ⟨x1, x2, x3, x4, x5⟩ := x
      simp only at p0 p1 p2 p3 p4 r0 r1 r2 r3 r4
      have hlen : (k : Int) < (m : Int) := by omega
      have hne := adv_neq x1 x2 x3 x4 x5 x1 x2 x3 x4 x5
      simp only [beq_self_eq_true, Bool.and_self, Bool.not_true] at hne
      go_wp2
      go_quiet (fail)
      go_wp2
      go_roundw
      case rel => exact ⟨k + 1, by omega, by go_num, Lib.hid ⟨_, rfl⟩⟩
      case measure => simp [intOf]; omega
    · go_wp2
      go_ret
      exact ⟨rfl, by repeat (first | exact Below.refl _ _ | apply sub_drewN)⟩
def PutP (w w' : World) (l : List Adv) (e : Ending) : Prop := ∃ A' c', e = .returned (.slice A' l.length c') ∧ l.length ≤ c' ∧ Reads w' w'.heap.size 5 A' l.length (advs l) ∧ Below w.heap.size w w' ∧ ∀ ad, A' = some ad → w.heap.size ≤ ad.block
theorem put14_any (l : List Adv) (A : Option Addr) (c n room : Nat) (x : Adv) (w : World) (hr : Reads w w.heap.size 5 A n (advs l)) (hn : n ≤ 100000) (h1 : 1 ≤ room) (h2 : room ≤ 100000) :
    Calls Try.prog 42 #[.slice A n c, .int .i64 (room : Int), x.val] w fun e w' => PutP w w' (putL l room x) e := by
  have ex := adv_len hr
  obtain ⟨x1, x2, x3, x4, x5⟩ := x
  have b1 := (Blk.new_at w 53 (Adv.arr ⟨x1, x2, x3, x4, x5⟩) rfl).alloc (.cells #[] 53)
  have hb := Blk.new_at (w.alloc (.cells (Adv.arr ⟨x1, x2, x3, x4, x5⟩) 53)) 53 #[] (g := w.heap.size + 1) (by simp)
  have hB0 := sub_alloc (sub_alloc (Below.refl w.heap.size w) (.cells (Adv.arr ⟨x1, x2, x3, x4, x5⟩) 53)) (.cells #[] 53)
  have ho := ownEmpty (B := w.heap.size + 1) (s := 5) hb (Nat.le_refl _)
  have hr2 := hr.up hB0
  obtain ⟨i, hi, hz, hsz, hby⟩ := info_parts elemAdvR.info
  have hone := advs_one l
  have HR := Lib.hid hr
  clear hr hb
  unfold Adv.arr at *
  unfold Adv.val
  simp only at *
  go_enter Try.func42, Try.ntmps42
  go_upto_region 2 with (at_builtin; go_must (refine wpList_append_any _ rfl (.tmp 8) (.tmp 9) _ rfl (w.heap.size + 1) 53 i _ 5 40 elemAdvR.under hi hz hsz hby rfl (by decide) (.slice (some ⟨w.heap.size + 1, 0, none⟩) 0 0) 0 [] rfl ho _ A n c (advs l) rfl hr2 hone (by unfold maxLen; omega) (by omega) (by simp) ?_); intro v1 w1 hm1 hg1 _)
  simp only [Nat.zero_add, List.nil_append] at hm1
  obtain ⟨A1, k1, rfl, hk1, hk1m⟩ := own_form hm1
  have b2 := b1.grown hg1 (by simp [Value.ownBlock])
  have hB1 : Below w.heap.size w w1 := hB0.grown hg1 (by simp; omega) fun k hk => by simp [Value.ownBlock] at hk; omega
  obtain ⟨g0, g1, g2, g3, g4⟩ := Blk.five (a := ⟨x1, x2, x3, x4, x5⟩) b2
  simp only at g0 g1 g2 g3 g4
  have hsz1 := b2.lt
  have HB0 := Lib.hid hB0
  clear b1 b2 hr2 hg1 ho hB0
  go_upto_region 3 with (at_builtin; go_must (refine wpList_append_oneN (w := w1) (v := .slice A1 n k1) (n := n) (xs := advs l) (B := w.heap.size + 1) elemAdvR (by decide) rfl (.tmp 11) (.tmp 13) rfl rfl hm1 (by omega) rfl rfl rfl (by simp [Value.oneCell']) (by omega) (by unfold maxLen; omega) ?_); intro v2 w2 hm2 hg2 hvb)
  have e2 : advs l ++ #[Value.int .i64 x1, .int .i64 x2, .int .i64 x3, .int .i64 x4, .int .i64 x5].toList = advs (l ++ [(⟨x1, x2, x3, x4, x5⟩ : Adv)]) := by simp [advs, Adv.cells]
  rw [e2] at hm2
  have hB2 : Below w.heap.size w w2 := hB1.grown hg2 (by omega) fun k hk => by have := (hm1.lt k hk).1; omega
  have hlen : (l ++ [(⟨x1, x2, x3, x4, x5⟩ : Adv)]).length = n + 1 := by simp [ex]
  obtain ⟨A2, k2, rfl, hk2, hk2m⟩ := own_form hm2
  have hR2 := Reads.of_own hm2
  obtain ⟨g, cap, ev, hgB, _⟩ := hm2.form (by omega)
  injection ev with ev1 _ ev2
  subst ev1 ev2
  have hput : putL l room ⟨x1, x2, x3, x4, x5⟩ = if room < l.length + 1 then (l ++ [(⟨x1, x2, x3, x4, x5⟩ : Adv)]).tail else l ++ [(⟨x1, x2, x3, x4, x5⟩ : Adv)] := rfl
  have HH := Lib.hid (And.intro hput (And.intro ex (And.intro hB2 (And.intro hR2 hlen))))
  clear hput ex hB1 hg2 hvb e2 hlen hm1 g0 g1 g2 g3 g4 hm2 hB2 hR2
  by_cases hlt : room < n + 1
  · have hlt2 : (room : Int) < (n : Int) + 1 := by omega
    have hk3 : ¬ k2 = 1 := by omega
    go_wp2
    go_ret
    obtain ⟨hput, ex, hB2, hR2, hlen⟩ := HH.out
    have hcut := hR2.cut (k := 1) (cap := k2) (by omega) (by omega)
    rw [if_neg hk3] at hcut
    have hd : (advs (l ++ [(⟨x1, x2, x3, x4, x5⟩ : Adv)])).drop (1 * 5) = advs (l ++ [(⟨x1, x2, x3, x4, x5⟩ : Adv)]).tail := by
      rcases hq : l ++ [(⟨x1, x2, x3, x4, x5⟩ : Adv)] with _ | ⟨y, t⟩
      · simp at hq
      · simp [advs, Adv.cells]
    rw [hd] at hcut
    have hp : putL l room ⟨x1, x2, x3, x4, x5⟩ = (l ++ [(⟨x1, x2, x3, x4, x5⟩ : Adv)]).tail := by rw [hput, if_pos (by omega)]
    have hl9 : (putL l room ⟨x1, x2, x3, x4, x5⟩).length = n := by rw [hp, List.length_tail, hlen]; omega
    rw [Nat.add_sub_cancel] at hcut
    rw [hp] at hl9 ⊢
    refine ⟨_, k2 - 1, congrArg Ending.returned (congrArg (fun q => Value.slice (some ((⟨g, 0, none⟩ : Addr).add 5)) q (k2 - 1)) (by rw [hl9])), by rw [hl9]; omega, by rw [hl9]; exact hcut, hB2, fun ad e => by injection e with e; subst e; rw [block_of_add]; exact Nat.le_of_succ_le hgB⟩
  · have hlt2 : ¬ (room : Int) < (n : Int) + 1 := by omega
    go_wp2
    go_ret
    obtain ⟨hput, ex, hB2, hR2, hlen⟩ := HH.out
    have hp : putL l room ⟨x1, x2, x3, x4, x5⟩ = l ++ [(⟨x1, x2, x3, x4, x5⟩ : Adv)] := by rw [hput, if_neg (by omega)]
    rw [hp]
    refine ⟨_, _, by rw [hlen]; rfl, by rw [hlen]; exact hk2, by rw [hlen]; exact hR2, hB2, fun ad e => by injection e with e; subst e; exact Nat.le_of_succ_le hgB⟩
end Go.Proofs.Ytgmgddccdfmiiaa
