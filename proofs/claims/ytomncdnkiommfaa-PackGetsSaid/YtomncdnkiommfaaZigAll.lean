/-
  The walks of zig.All and of the reference's Read and Same. Conditions: at most 100000 bytes.
-/
import Derived.Test.YtomncdnkiommfaaZigPut
import Derived.Test.YtomncdnkiommfaaZigPlain2
namespace Go.Proofs.Ytomncdnkiommfaa
open Go.RowKit Go.Fw
set_option maxHeartbeats 400000
set_option maxRecDepth 4000
set_option linter.unusedVariables false
set_option linter.unusedSimpArgs false

theorem read_any (l : List UInt8) (A : Option Addr) (c : Nat) (w : World) (hr : Reads w w.heap.size 1 A l.length (bys l)) (hl : l.length ≤ 100000) (hc : l.length ≤ c) :
    Calls Try.prog 19 #[.slice A l.length c] w fun e w' => ∃ v, e = .returned (.tuple #[v, .int .i64 (readL l).2]) ∧ Mine w w' 2 v (i64s (readL l).1) := by
  go_enter Try.func19, Try.ntmps19
  go_wp2
  go_loopw [4, 5] (fun v i wr => ∃ (k f : Nat) (out : List Int), k ≤ l.length ∧ i = .int .i64 k ∧ Mine w wr 2 v (i64s out) ∧ Hid (readL l = readF f (l.drop k) out) ∧ l.length ≤ f + k ∧ out.length ≤ k) (fun _ i _ => l.length - (intOf i).toNat)
  case atStart => exact ⟨0, l.length, [], by omega, rfl, Mine.nil_ w 2, Lib.hid rfl, by omega, by simp⟩
  case round =>
    obtain ⟨k, f, out, hk, rfl, hm, HR, hf, ho⟩ := hrel
    by_cases hlt : k < l.length
    · have hr1 := (hr.below hm.below).tail hlt
      rw [bys_drop] at hr1
      rcases hg : getL (l.drop k) 0 0 with ⟨n, sz, cd⟩
      obtain ⟨f', hf', hbad, hok⟩ := readF_one out hlt hf n sz cd hg
      have HG := Lib.hid hg
      clear hg
      by_cases h0 : cd = 0
      · subst h0
        obtain ⟨ho2, hs1, hs2, hs3, hn1, hn2⟩ := hok rfl
        have HO := Lib.hid ho2
        obtain ⟨z, hz⟩ := Int.eq_ofNat_of_zero_le (show 0 ≤ sz by omega)
        subst hz
        subst hf'
        clear hbad hok ho2
        go_wp2_with (first
          | (go_at_call 10; refine (rget_at _ _ _ _ _ _ hr1 (by unfold maxLen; omega)).mono ?_; rintro e w1 ⟨rfl, rfl⟩; rw [HG.out])
          | (at_builtin; refine wpList_append_one elem64 rfl (.tmp 24) (.tmp 26) rfl rfl hm rfl rfl (by rw [i64s_length]; omega) (by rw [i64s_length]; unfold maxLen; omega) ?_; intro v' w' hm' hg'))
        rw [i64s_snoc] at hm'
        go_roundw
        case rel => exact ⟨k + z, f', out ++ [n], by simp at hs3; omega, by go_num, hm', Lib.hid (by rw [HR.out, HO.out]; rfl), by omega, by simp; omega⟩
        case measure => simp [intOf]; omega
      · have HB := Lib.hid (hbad h0)
        have h1 : ((cd : Int) != 0) = true := by simpa using h0
        clear hbad hok hf'
        go_wp2_with (first
          | (go_at_call 10; refine (rget_at _ _ _ _ _ _ hr1 (by unfold maxLen; omega)).mono ?_; rintro e w1 ⟨rfl, rfl⟩; rw [HG.out]))
        go_ret2
        exact ⟨_, by rw [HR.out, HB.out]; rfl, by rw [HR.out, HB.out]; exact Mine.nil_at hm.below 2⟩
    · go_wp2
      go_ret2
      have e : readL l = (out, 0) := by rw [HR.out, List.drop_eq_nil_of_le (by omega), readF_done]
      exact ⟨_, by rw [e]; rfl, by rw [e]; exact hm⟩

def AllRel (l : List UInt8) (A : Option Addr) (c : Nat) (w : World) (a' : Act) (wr : World) : Prop :=
  ∃ (k f : Nat) (out : List Int) (v u6 u7 u8 u9 u10 u11 u12 u13 u14 u15 u16 u17 u18 u19 u20 u21 u22 u23 u24 u25 u26 u27 u28 u29 u30 u31 : Value), a' = { tmps := #[.slice A l.length c, undef, .slice none 0 0, .int .i64 0, v, .int .i64 k, u6, u7, u8, u9, u10, u11, u12, u13, u14, u15, u16, u17, u18, u19, u20, u21, u22, u23, u24, u25, u26, u27, u28, u29, u30, u31], defers := [] } ∧ k ≤ l.length ∧ Mine w wr 2 v (i64s out) ∧ Hid (readL l = readF f (l.drop k) out) ∧ l.length ≤ f + k ∧ out.length ≤ k
def AllMu (l : List UInt8) (a' : Act) (_ : World) : Nat := l.length - (intOf (a'.tmps.getD 5 undef)).toNat

theorem all_any (l : List UInt8) (A : Option Addr) (c : Nat) (w : World) (hr : Reads w w.heap.size 1 A l.length (bys l)) (hl : l.length ≤ 100000) (hc : l.length ≤ c) :
    Calls Try.prog 13 #[.slice A l.length c] w fun e w' => ∃ v, e = .returned (.tuple #[v, .int .i64 (perr (readL l).2)]) ∧ Mine w w' 2 v (i64s (readL l).1) := by
  go_enter Try.func13, Try.ntmps13
  go_wp2
  refine wp_scope_jumps 0 (AllRel l A c w) (AllMu l) rfl ?_ ?_
  · go_wp2
    go_step3
    by_cases hlt : 0 < l.length
    · have hne : (((0 : Nat) : Int) == (l.length : Int)) = false := by simp; omega
      have hr1 := hr
      rcases hg : getL l 0 0 with ⟨n, sz, cd⟩
      obtain ⟨f', hf', hbad, hok⟩ := readF_one [] hlt (f := l.length) (by omega) n sz cd (by rw [List.drop_zero]; exact hg)
      have hcd : cd = 0 ∨ cd = 1 ∨ cd = 2 := by have := getL_code l 0 0; rw [hg] at this; exact this
      have HG := Lib.hid hg
      clear hg
      by_cases h0 : cd = 0
      · subst h0
        have hp : perr 0 = 0 := by decide
        obtain ⟨ho2, hs1, hs2, hs3, hn1, hn2⟩ := hok rfl
        have HO := Lib.hid ho2
        obtain ⟨z, hz⟩ := Int.eq_ofNat_of_zero_le (show 0 ≤ sz by omega)
        subst hz
        have HF := Lib.hid hf'
        clear hbad hok ho2 hf'
        go_wp2_with (first
          | (go_at_call 9; refine (get_at _ _ _ _ _ _ hr1 (by unfold maxLen; omega)).mono ?_; rintro e w1 ⟨rfl, rfl⟩; rw [HG.out])
          | (at_builtin; refine wpList_append_one elem64 rfl (.tmp 25) (.tmp 27) rfl rfl (Mine.nil_ w 2) rfl rfl (by simp) (by simp [maxLen]) ?_; intro v' w' hm' hg'))
        go_step3
        refine ⟨rfl, z, f', [n], v', _, _, _, _, _, _, _, _, _, _, _, _, _, _, _, _, _, _, _, _, _, _, _, _, _, _, rfl, by simp at hs3; omega, by simpa [i64s] using hm', Lib.hid ?_, by have := HF.out; omega, by simp; omega⟩
        show readF l.length (l.drop 0) [] = _
        rw [HO.out]
        simp
      · have HB := Lib.hid (hbad h0)
        have h1 : (perr cd != 0) = true := by rcases hcd with rfl | rfl | rfl <;> first | (exfalso; exact h0 rfl) | decide
        clear hbad hok hf' hcd
        go_wp2_with (first
          | (go_at_call 9; refine (get_at _ _ _ _ _ _ hr1 (by unfold maxLen; omega)).mono ?_; rintro e w1 ⟨rfl, rfl⟩; rw [HG.out]))
        simp only [Exit.jump]
        go_ret2
        have e : readL l = ([], cd) := by show readF l.length (l.drop 0) [] = _; exact HB.out
        exact ⟨_, by rw [e]; rfl, by rw [e]; exact Mine.nil_ w 2⟩
    · go_wp2
      simp only [Exit.jump]
      go_ret2
      have hl0 : l = [] := List.eq_nil_of_length_eq_zero (by omega)
      subst hl0
      exact ⟨_, rfl, Mine.nil_ w 2⟩
  · rintro a' wr ⟨k, f, out, v, u6, u7, u8, u9, u10, u11, u12, u13, u14, u15, u16, u17, u18, u19, u20, u21, u22, u23, u24, u25, u26, u27, u28, u29, u30, u31, rfl, hk, hm, HR, hf, ho⟩
    by_cases hlt : k < l.length
    · have hne : (((k : Nat) : Int) == (l.length : Int)) = false := by simp; omega
      have hr1 := (hr.below hm.below).tail hlt
      rw [bys_drop] at hr1
      rcases hg : getL (l.drop k) 0 0 with ⟨n, sz, cd⟩
      obtain ⟨f', hf', hbad, hok⟩ := readF_one out hlt hf n sz cd hg
      have hcd : cd = 0 ∨ cd = 1 ∨ cd = 2 := by have := getL_code (l.drop k) 0 0; rw [hg] at this; exact this
      have HG := Lib.hid hg
      clear hg
      by_cases h0 : cd = 0
      · subst h0
        have hp : perr 0 = 0 := by decide
        obtain ⟨ho2, hs1, hs2, hs3, hn1, hn2⟩ := hok rfl
        have HO := Lib.hid ho2
        obtain ⟨z, hz⟩ := Int.eq_ofNat_of_zero_le (show 0 ≤ sz by omega)
        subst hz
        have HF := Lib.hid hf'
        clear hbad hok ho2 hf'
        go_wp2_with (first
          | (go_at_call 9; refine (get_at _ _ _ _ _ _ hr1 (by unfold maxLen; omega)).mono ?_; rintro e w1 ⟨rfl, rfl⟩; rw [HG.out])
          | (at_builtin; refine wpList_append_one elem64 rfl (.tmp 25) (.tmp 27) rfl rfl hm rfl rfl (by rw [i64s_length]; omega) (by rw [i64s_length]; unfold maxLen; omega) ?_; intro v' w' hm' hg'))
        go_step3
        rw [i64s_snoc] at hm'
        refine ⟨rfl, ⟨k + z, f', out ++ [n], v', _, _, _, _, _, _, _, _, _, _, _, _, _, _, _, _, _, _, _, _, _, _, _, _, _, _, rfl, by simp at hs3; omega, hm', Lib.hid (by rw [HR.out, HO.out]; rfl), by have := HF.out; omega, by simp; omega⟩, ?_⟩
        simp [AllMu, intOf]
        omega
      · have HB := Lib.hid (hbad h0)
        have h1 : (perr cd != 0) = true := by rcases hcd with rfl | rfl | rfl <;> first | (exfalso; exact h0 rfl) | decide
        clear hbad hok hf' hcd
        go_wp2_with (first
          | (go_at_call 9; refine (get_at _ _ _ _ _ _ hr1 (by unfold maxLen; omega)).mono ?_; rintro e w1 ⟨rfl, rfl⟩; rw [HG.out]))
        simp only [Exit.jump]
        go_ret2
        exact ⟨_, by rw [HR.out, HB.out]; rfl, by rw [HR.out, HB.out]; exact Mine.nil_at hm.below 2⟩
    · go_wp2
      simp only [Exit.jump]
      go_ret2
      have e : readL l = (out, 0) := by rw [HR.out, List.drop_eq_nil_of_le (by omega), readF_done]
      exact ⟨_, by rw [e]; rfl, by rw [e]; exact hm⟩

theorem drop_eq_iff {xs ys : List Int} (hl : xs.length = ys.length) (k : Nat) (hk : k < xs.length) : decide (xs.drop k = ys.drop k) = (decide (xs[k] = ys[k]) && decide (xs.drop (k + 1) = ys.drop (k + 1))) := by
  rw [List.drop_eq_getElem_cons hk, List.drop_eq_getElem_cons (show k < ys.length by omega), Bool.eq_iff_iff]
  simp only [decide_eq_true_eq, Bool.and_eq_true, List.cons.injEq]
theorem same_any (xs ys : List Int) (A A2 : Option Addr) (c c2 n m B : Nat) (w : World) (hx : Reads w B 1 A n (i64s xs)) (hy : Reads w B 1 A2 m (i64s ys)) (hn : n ≤ 1000000) (hm : m ≤ 1000000) (sx : Small xs) (sy : Small ys) :
    Calls Try.prog 15 #[.slice A n c, .slice A2 m c2] w fun e w' => e = .returned (.bool (decide (xs = ys))) ∧ Below w.heap.size w w' := by
  have ex : n = xs.length := by have := hx.len; rwa [i64s_length] at this
  have ey : m = ys.length := by have := hy.len; rwa [i64s_length] at this
  by_cases hnm : n = m
  · have h1 : ((n : Int) != (m : Int)) = false := by simp; omega
    have hl : xs.length = ys.length := by omega
    have EX := Lib.hid ex
    have EY := Lib.hid ey
    have HL := Lib.hid hl
    subst hnm
    clear ex ey hl
    go_enter Try.func15, Try.ntmps15
    go_wp2
    go_loopw [5] (fun i wr => ∃ (k : Nat), k ≤ n ∧ i = .int .i64 k ∧ Hid (decide (xs = ys) = decide (xs.drop k = ys.drop k)) ∧ Hid (∃ nq, wr = w.drewN nq)) (fun i _ => n - (intOf i).toNat)
    case atStart => exact ⟨0, by omega, rfl, Lib.hid rfl, Lib.hid ⟨0, rfl⟩⟩
    case round =>
      obtain ⟨k, hk, rfl, HD, HW⟩ := hrel
      obtain ⟨nq, rfl⟩ := HW.out
      clear HW
      by_cases hlt : k < n
      · obtain ⟨ad, u, rfl, _, hux, hc⟩ := hx.at_ hlt
        obtain ⟨ad2, u2, rfl, _, huy, hc2⟩ := hy.at_ hlt
        have hkx : k < xs.length := by have := EX.out; omega
        have hky : k < ys.length := by have := EY.out; omega
        obtain rfl := i64s_get hux hkx
        obtain rfl := i64s_get huy hky
        have hde := drop_eq_iff HL.out k hkx
        have hbx := sx k hkx
        have hby := sy k hky
        generalize xs[k] = x at *
        generalize ys[k] = y at *
        have hlen : (k : Int) < (n : Int) := by omega
        by_cases hxy : x = y
        · have h2 : (x != y) = false := by simp [hxy]
          have HE : Hid (decide (xs.drop k = ys.drop k) = decide (xs.drop (k + 1) = ys.drop (k + 1))) := by rw [hde, hxy]; exact Lib.hid (by simp)
          clear hde hxy hux huy
          go_wp2
          go_quiet (fail)
          go_wp2
          go_roundw
          case rel => exact ⟨k + 1, by omega, by go_num, Lib.hid (by rw [HD.out, HE.out]), Lib.hid ⟨_, rfl⟩⟩
          case measure => simp [intOf]; omega
        · have h2 : (x != y) = true := by simp [hxy]
          have HE : Hid (decide (xs.drop k = ys.drop k) = false) := by rw [hde]; exact Lib.hid (by simp [hxy])
          clear hde hxy hux huy
          go_wp2
          go_quiet (fail)
          go_wp2
          go_ret
          exact ⟨ret_b (by rw [HD.out, HE.out]), by repeat (first | exact Below.refl _ _ | apply sub_drewN)⟩
      · have HE : Hid (decide (xs = ys) = true) := by
          rw [HD.out, List.drop_eq_nil_of_le (by have := EX.out; omega), List.drop_eq_nil_of_le (by have := EY.out; omega)]
          exact Lib.hid (by simp)
        go_wp2
        go_ret
        exact ⟨ret_b (by rw [HE.out]), by repeat (first | exact Below.refl _ _ | apply sub_drewN)⟩
  · have h1 : ((n : Int) != (m : Int)) = true := by simp; omega
    have HE : Hid (decide (xs = ys) = false) := by
      show _ = _
      rw [decide_eq_false_iff_not]
      intro h
      subst h
      omega
    clear ex ey hnm
    go_enter Try.func15, Try.ntmps15
    go_wp2
    go_ret
    exact ⟨ret_b (by rw [HE.out]), Below.refl _ _⟩
end Go.Proofs.Ytomncdnkiommfaa
