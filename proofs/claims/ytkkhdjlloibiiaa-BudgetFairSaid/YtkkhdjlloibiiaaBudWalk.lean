/-
  The walks of wants, budget.Check, the reference's Check and budget.neediest. Conditions: few elements, numbers of 64 bits.
-/
import Derived.Test.YtkkhdjlloibiiaaBudPlain
import Derived.Test.YtkkhdjlloibiiaaSatSub
import Derived.Test.YtkkhdjlloibiiaaSatRadd
import Derived.Test.YtkkhdjlloibiiaaRegion
import Derived.Test.YtkkhdjlloibiiaaOwn
namespace Go.Proofs.Ytkkhdjlloibiiaa
open Go.RowKit Go.Fw
set_option maxHeartbeats 1000000
set_option maxRecDepth 4000
set_option linter.unusedVariables false
set_option linter.unusedSimpArgs false

theorem elemWant : ElemS Try.prog 28 48 (.agg #[.int .i64 0, .int .i64 0]) 2 16 := ⟨Try.underlying28, by kernel_rfl, rfl⟩

theorem wants_any (l : List Wnt) (A : Option Addr) (c n : Nat) (w : World) (hr : Reads w w.heap.size 2 A n (wnts l)) (hl : n ≤ 1000) :
    Calls Try.prog 8 #[.slice A n c] w fun e w' => ∃ v, e = .returned v ∧ MineS 2 w w' 48 v n (wnts l) := by
  have hn := wnt_len hr
  have HN := Lib.hid hn
  clear hn
  go_enter Try.func8, Try.ntmps8
  go_wp2
  go_loopw [3, 8] (fun v i wr => ∃ (k : Nat), k ≤ n ∧ i = .int .i64 k ∧ MineS 2 w wr 48 v k (wnts (l.take k))) (fun _ i _ => n - (intOf i).toNat)
  case atStart => exact ⟨0, by omega, rfl, MineS.nil_ 2 _ _⟩
  case round =>
    obtain ⟨k, hk, rfl, hm⟩ := hrel
    by_cases hlt : k < n
    · have hkl : k < l.length := by have := HN.out; omega
      obtain ⟨bl, off, rfl, hbl, h0, h1⟩ := wnt_at (hr.up hm.below) hkl
      have hs : wnts (l.take (k + 1)) = wnts (l.take k) ++ l[k].cells := by rw [wnts_snoc, List.take_succ_eq_append_getElem hkl]
      generalize l[k] = x at *
      obtain ⟨x0, x1⟩ := x
      simp only at h0 h1
      have HS := Lib.hid hs
      clear hs
      have hm2 := hm.alloc (.cells #[.int .i64 x0, .int .i64 x1] 44)
      go_wp2_with (at_builtin; go_must (refine wpList_append_oneG elemWant (by decide) rfl (.tmp 12) (.tmp 14) rfl rfl hm2.own hm2.le (by simp) rfl rfl (wnts_one ⟨_, _⟩) (by omega) (by unfold maxLen; omega) ?_); intro v' w' hm' hg')
      go_roundw
      case rel => exact ⟨k + 1, by omega, by go_num, by rw [HS.out]; exact hm2.app hg' hm'⟩
      case measure => simp [intOf]; omega
    · have hkn : k = n := by omega
      have e : wnts (l.take k) = wnts l := by rw [List.take_of_length_le (by have := HN.out; omega)]
      rw [e, hkn] at hm
      clear e hkn
      go_wp2
      go_ret
      exact ⟨_, rfl, hm⟩

theorem bcheck_any (total : Int) (l : List Wnt) (A : Option Addr) (c n : Nat) (w : World) (hr : Reads w w.heap.size 2 A n (wnts l)) (hl : n ≤ 1000) (ht : In64 total) (hok : ∀ x ∈ l, x.ok) :
    Calls Try.prog 10 #[.int .i64 total, .slice A n c] w fun e w' => e = .returned (.int .i64 (bcheck total l)) ∧ Below w.heap.size w w' := by
  have hn := wnt_len hr
  have HN := Lib.hid hn
  obtain ⟨ht0, ht1⟩ := ht
  by_cases hb : total < 0 ∨ 4096 < total ∨ 64 < l.length
  · have HF : Hid (bcheck total l = 1) := by show _ = _; unfold bcheck; rw [if_pos hb]
    rw [← hn] at hb
    clear hn
    have hc : total < 0 ∨ (¬ total < 0 ∧ 4096 < total) ∨ (¬ total < 0 ∧ ¬ 4096 < total ∧ 64 < n) := by omega
    clear hb
    rcases hc with h1 | ⟨h1, h2⟩ | ⟨h1, h2, h3⟩
    all_goals
      go_enter Try.func10, Try.ntmps10
      go_wp2
      go_ret
      exact ⟨ret_i HF.out.symm, Below.refl _ _⟩
  · have HF : Hid (bcheck total l = bck total 0 l) := by show _ = _; unfold bcheck; rw [if_neg hb]
    rw [← hn] at hb
    clear hn
    have h1 : ¬ total < 0 := by omega
    have h2 : ¬ 4096 < total := by omega
    have h3 : ¬ 64 < n := by omega
    clear hb
    go_enter Try.func10, Try.ntmps10
    go_wp2
    go_loopw [5, 21] (fun s i wr => ∃ (k : Nat) (needs : Int), k ≤ n ∧ i = .int .i64 k ∧ s = .int .i64 needs ∧ In64 needs ∧ Hid (bcheck total l = bck total needs (l.drop k)) ∧ Below w.heap.size w wr) (fun _ i _ => n - (intOf i).toNat)
    case atStart => exact ⟨0, 0, by omega, rfl, rfl, ⟨by decide, by decide⟩, by rw [HF.out]; exact Lib.hid rfl, Below.refl _ _⟩
    case round =>
      obtain ⟨k, needs, hk, rfl, rfl, hnd, HG, hb⟩ := hrel
      by_cases hlt : k < n
      · have hkl : k < l.length := by have := HN.out; omega
        obtain ⟨bl, off, rfl, hbl, g0, g1⟩ := wnt_at (hr.up hb) hkl
        have hx := hok _ (List.getElem_mem hkl)
        have b1 := bck_bad (total := total) (needs := needs) hkl
        have b2 := bck_on (total := total) (needs := needs) hkl
        generalize l[k] = x at *
        obtain ⟨x0, x1⟩ := x
        obtain ⟨hx0, hx1⟩ := hx
        simp only at g0 g1 b1 b2 hx0 hx1
        have hb2 : ∀ o, Below w.heap.size w (wr.alloc o) := fun o => sub_alloc hb o
        by_cases c1 : x0 < 0
        · have HX := Lib.hid (b1 (.inl c1))
          clear b1 b2
          go_wp2
          go_ret
          exact ⟨ret_i (by rw [HG.out, HX.out]), hb2 _⟩
        · by_cases c2 : x1 < x0
          · have HX := Lib.hid (b1 (.inr c2))
            clear b1 b2
            go_wp2
            go_ret
            exact ⟨ret_i (by rw [HG.out, HX.out]), hb2 _⟩
          · have HX := Lib.hid (b2 (by omega))
            clear b1 b2
            have hi := sat_in (needs + x0)
            go_wp2_with (go_at_call 18; refine (add_any _ _ _ hnd hx0).mono ?_; rintro e w' ⟨rfl, rfl⟩)
            go_roundw
            case rel => exact ⟨k + 1, sat (needs + x0), by omega, by go_num, rfl, hi, Lib.hid (by rw [HG.out, HX.out]), hb2 _⟩
            case measure => simp [intOf]; omega
      · have hd : l.drop k = [] := List.drop_eq_nil_of_le (by have := HN.out; omega)
        rw [hd] at HG
        by_cases c : total < needs
        · have HX : Hid (bcheck total l = 12) := by show _ = _; rw [HG.out, bck, if_pos c]
          clear hd
          go_wp2
          go_ret
          exact ⟨ret_i HX.out.symm, hb⟩
        · have HX : Hid (bcheck total l = 0) := by show _ = _; rw [HG.out, bck, if_neg c]
          clear hd
          go_wp2
          go_ret
          exact ⟨ret_i HX.out.symm, hb⟩

theorem rbcheck_any (total : Int) (l : List Wnt) (A : Option Addr) (c n : Nat) (w : World) (hr : Reads w w.heap.size 2 A n (wnts l)) (hl : n ≤ 1000) (ht : In64 total) (hok : ∀ x ∈ l, x.ok) :
    Calls Try.prog 9 #[.int .i64 total, .slice A n c] w fun e w' => e = .returned (.int .i64 (bcheck total l)) ∧ Below w.heap.size w w' := by
  have hn := wnt_len hr
  have HN := Lib.hid hn
  obtain ⟨ht0, ht1⟩ := ht
  by_cases hb : total < 0 ∨ 4096 < total ∨ 64 < l.length
  · have HF : Hid (bcheck total l = 1) := by show _ = _; unfold bcheck; rw [if_pos hb]
    rw [← hn] at hb
    clear hn
    have hc : total < 0 ∨ (¬ total < 0 ∧ 4096 < total) ∨ (¬ total < 0 ∧ ¬ 4096 < total ∧ 64 < n) := by omega
    clear hb
    rcases hc with h1 | ⟨h1, h2⟩ | ⟨h1, h2, h3⟩
    all_goals
      go_enter Try.func9, Try.ntmps9
      go_wp2
      go_ret
      exact ⟨ret_i HF.out.symm, Below.refl _ _⟩
  · have HF : Hid (bcheck total l = bck total 0 l) := by show _ = _; unfold bcheck; rw [if_neg hb]
    rw [← hn] at hb
    clear hn
    have h1 : ¬ total < 0 := by omega
    have h2 : ¬ 4096 < total := by omega
    have h3 : ¬ 64 < n := by omega
    clear hb
    go_enter Try.func9, Try.ntmps9
    go_wp2
    go_loopw [5, 6] (fun s i wr => ∃ (k : Nat) (needs : Int), k ≤ n ∧ i = .int .i64 k ∧ s = .int .i64 needs ∧ In64 needs ∧ Hid (bcheck total l = bck total needs (l.drop k)) ∧ Hid (∃ q, wr = w.drewN q)) (fun _ i _ => n - (intOf i).toNat)
    case atStart => exact ⟨0, 0, by omega, rfl, rfl, ⟨by decide, by decide⟩, by rw [HF.out]; exact Lib.hid rfl, Lib.hid ⟨0, rfl⟩⟩
    case round =>
      obtain ⟨k, needs, hk, rfl, rfl, hnd, HG, HW⟩ := hrel
      obtain ⟨q, rfl⟩ := HW.out
      clear HW
      have hb : ∀ q, Below w.heap.size w (w.drewN q) := fun q => sub_drewN (Below.refl _ _) q
      by_cases hlt : k < n
      · have hkl : k < l.length := by have := HN.out; omega
        obtain ⟨bl, off, rfl, hbl, g0, g1⟩ := wnt_at hr hkl
        have hx := hok _ (List.getElem_mem hkl)
        have b1 := bck_bad (total := total) (needs := needs) hkl
        have b2 := bck_on (total := total) (needs := needs) hkl
        generalize l[k] = x at *
        obtain ⟨x0, x1⟩ := x
        obtain ⟨hx0, hx1⟩ := hx
        simp only at g0 g1 b1 b2 hx0 hx1
        by_cases c1 : x0 < 0
        · have HX := Lib.hid (b1 (.inl c1))
          have d1 : decide (x0 < 0) = true := by simp [c1]
          clear b1 b2
          go_wp2
          go_quiet (fail)
          go_wp2
          go_ret
          exact ⟨ret_i (by rw [HG.out, HX.out]), by repeat (first | exact hb _ | apply sub_drewN)⟩
        · have d1 : decide (x0 < 0) = false := by simp [c1]
          by_cases c2 : x1 < x0
          · have HX := Lib.hid (b1 (.inr c2))
            clear b1 b2
            go_wp2
            go_quiet (fail)
            go_wp2
            go_ret
            exact ⟨ret_i (by rw [HG.out, HX.out]), by repeat (first | exact hb _ | apply sub_drewN)⟩
          · have HX := Lib.hid (b2 (by omega))
            clear b1 b2
            have hi := sat_in (needs + x0)
            go_wp2
            go_quiet (fail)
            go_wp2_with (go_at_call 14; refine (radd_any _ _ _ hnd hx0).mono ?_; rintro e w' ⟨rfl, rfl⟩)
            go_roundw
            case rel => exact ⟨k + 1, sat (needs + x0), by omega, by go_num, rfl, hi, Lib.hid (by rw [HG.out, HX.out]), Lib.hid ⟨_, rfl⟩⟩
            case measure => simp [intOf]; omega
      · have hd : l.drop k = [] := List.drop_eq_nil_of_le (by have := HN.out; omega)
        rw [hd] at HG
        by_cases c : total < needs
        · have HX : Hid (bcheck total l = 12) := by show _ = _; rw [HG.out, bck, if_pos c]
          clear hd
          go_wp2
          go_ret
          exact ⟨ret_i HX.out.symm, hb _⟩
        · have HX : Hid (bcheck total l = 0) := by show _ = _; rw [HG.out, bck, if_neg c]
          clear hd
          go_wp2
          go_ret
          exact ⟨ret_i HX.out.symm, hb _⟩
end Go.Proofs.Ytkkhdjlloibiiaa
