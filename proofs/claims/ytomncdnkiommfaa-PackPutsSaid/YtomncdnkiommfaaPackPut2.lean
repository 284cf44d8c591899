/-
  The walks of pack.Put, pack.Size and of the reference's Put. Conditions: at most 100000 samples, numbers of 64 bits.
-/
import Derived.Test.YtomncdnkiommfaaPackPut
namespace Go.Fw
open Go.RowKit
theorem own_lower {w : World} {b b' size n : Nat} {e : TypeId} {v : Value} {xs : List Value} (h : w.ownsRow b e size v n xs) (hb : b' ≤ b) : w.ownsRow b' e size v n xs := by
  refine ⟨h.1, ?_⟩
  rcases h.2 with h | ⟨g, cap, cur, h1, h2, h3⟩
  · exact .inl h
  · exact .inr ⟨g, cap, cur, h1, Nat.le_trans hb h2, h3⟩
theorem Mine.lower {w w1 w2 : World} {e : TypeId} {v : Value} {xs : List Value} (h : Mine w1 w2 e v xs) (hb : Below w.heap.size w w1) : Mine w w2 e v xs := ⟨own_lower h.own hb.size, sub_trans hb h.below⟩
theorem Mine.made {w0 w : World} (h : Below w0.heap.size w0 w) (e : TypeId) (u : Value) (g : Nat) (hg : g = w.heap.size) : Mine w0 (w.alloc (.cells #[u] e)) e (.slice (some ⟨g, 0, none⟩) 1 1) [u] := by
  subst hg
  refine ⟨⟨rfl, .inr ⟨w.heap.size, 1, #[u], rfl, h.size, heap_alloc_new w _, Nat.le_refl _, by simp [maxLen], rfl, rfl⟩⟩, sub_alloc h _⟩
end Go.Fw
namespace Go.Proofs.Ytomncdnkiommfaa
open Go.RowKit Go.Fw
set_option maxHeartbeats 2000000
set_option maxRecDepth 4000
set_option linter.unusedVariables false
set_option linter.unusedSimpArgs false

/-- the bytes of samples, or none, if something is wrong with them -/
def packB (l : List Smp) : List UInt8 := if checkS l = 0 then putL (numL l) else []
theorem packB_ok {l : List Smp} (h : checkS l = 0) : packB l = putL (numL l) := if_pos h
theorem packB_bad {l : List Smp} (h : checkS l ≠ 0) : packB l = [] := if_neg h
def lastS (l : List Smp) (k : Nat) : Smp := (l.take k).getLastD ⟨-1, 0⟩
theorem lastS_succ {l : List Smp} {k : Nat} (hk : k < l.length) : lastS l (k + 1) = l[k] := last_take _ hk
def numK (l : List Smp) (k : Nat) : List Int := (l.length : Int) :: difF (-1) 0 (l.take k)
theorem numK_succ {l : List Smp} {k : Nat} (hk : k < l.length) : numK l (k + 1) = numK l k ++ [l[k].tick - (lastS l k).tick - 1, l[k].value - (lastS l k).value] := by
  unfold numK lastS
  rw [List.take_succ_eq_append_getElem hk, difF_snoc _ _ ⟨-1, 0⟩ _ _ rfl rfl]
  rfl
theorem lastS_in {l : List Smp} (hok : ∀ x ∈ l, x.ok) (hc : chk (-1) l = 0) (k : Nat) (hk : k ≤ l.length) : -1 ≤ (lastS l k).tick ∧ (lastS l k).tick ≤ 9223372036854775807 ∧ 0 ≤ (lastS l k).value ∧ (lastS l k).value ≤ 9223372036854775807 := by
  obtain _ | k := k
  · show -1 ≤ (-1 : Int) ∧ (-1 : Int) ≤ 9223372036854775807 ∧ (0 : Int) ≤ 0 ∧ (0 : Int) ≤ 9223372036854775807
    decide
  · rw [lastS_succ hk]
    have hm := List.getElem_mem hk
    have h1 := chk_all l _ hc _ hm
    have h2 := hok _ hm
    have h3 := h2.tick
    have h4 := h2.value
    unfold In64 at *
    omega

theorem pput_any (l : List Smp) (A : Option Addr) (c n : Nat) (w : World) (hr : Reads w w.heap.size 2 A n (smps l)) (hl : n ≤ 10000) (hok : ∀ x ∈ l, x.ok) :
    Calls Try.prog 25 #[.slice A n c] w fun e w' => ∃ v, e = .returned (.tuple #[v, .int .i64 (checkS l)]) ∧ Mine w w' 5 v (bys (packB l)) := by
  have hn := smp_len hr
  have HN := Lib.hid hn
  by_cases h0 : checkS l = 0
  · have hc : chk (-1) l = 0 := by unfold checkS at h0; split at h0; cases h0; exact h0
    have H0 := Lib.hid h0
    have HC := Lib.hid hc
    clear hn h0 hc
    go_enter Try.func25, Try.ntmps25
    go_wp2_with fail
    refine (check_any l _ _ _ _ hr (by omega)).mono ?_
    rintro e w1 ⟨rfl, hb1⟩
    rw [H0.out]
    have hr1 := hr.up hb1
    go_wp2_with fail
    have hb2 := sub_alloc (sub_alloc hb1 (.cells #[.int .i64 n] 2)) (.cells #[.int .i64 (-1), .int .i64 0] 57)
    go_loopw [5, 20] (fun v i wr => ∃ (k : Nat), k ≤ n ∧ i = .int .i64 k ∧ Mine w wr 2 v (i64s (numK l k)) ∧ Blk wr (w1.heap.size + 1) 57 #[.int .i64 (lastS l k).tick, .int .i64 (lastS l k).value]) (fun _ i _ => n - (intOf i).toNat)
    case atStart => exact ⟨0, by omega, rfl, by have := (Mine.made hb1 2 (.int .i64 n) w1.heap.size rfl).alloc (.cells #[.int .i64 (-1), .int .i64 0] 57); rw [HN.out] at this; rw [HN.out]; exact this, Blk.new_at _ _ _ (by simp)⟩
    case round =>
      obtain ⟨k, hk, rfl, hm, hbk⟩ := hrel
      obtain ⟨v, hv⟩ : ∃ v, v = u5 := ⟨_, rfl⟩
      subst hv
      have gg : w1.heap.size + 1 < wr.heap.size := hbk.lt
      have hw1 : w.heap.size ≤ w1.heap.size := hb1.size
      have lk : (i64s (numK l k)).length ≤ 2 * k + 1 := by
        rw [i64s_length]
        unfold numK
        rw [List.length_cons, difF_length]
        have := List.length_take_le k l
        omega
      by_cases hlt : k < n
      · have hkl : k < l.length := by have := HN.out; omega
        obtain ⟨bl, off, rfl, hbl, h0, h1⟩ := smp_at (hr.up hm.below) hkl
        have hs := numK_succ hkl
        have hls := lastS_succ hkl
        have hi := lastS_in hok HC.out k (by have := HN.out; omega)
        have hxo := hok _ (List.getElem_mem hkl)
        have hxc := chk_all l _ HC.out _ (List.getElem_mem hkl)
        obtain ⟨xt, xv⟩ := hxo
        obtain ⟨xt0, xv0⟩ := hxc
        unfold In64 at xt xv
        generalize hX : l[k] = X at *
        generalize lastS l k = L at *
        obtain ⟨T, V⟩ := X
        obtain ⟨T', V'⟩ := L
        simp only at hs hi xt xv xt0 xv0 h0 h1 hbk
        have c0 := hbk.cell 0
        have c1 := hbk.cell 1
        have f0 := hbk.frozen 0
        have f1 := hbk.frozen 1
        simp at c0 c1
        have HS := Lib.hid hs
        have HLS := Lib.hid hls
        clear hX hs hls
        have hno := own_ne hm.own hbk (by decide)
        have hfr : v.ownBlock ≠ some wr.heap.size := fun h => by have := (hm.own.lt _ h).2; omega
        have hW : wrap64 (wrap64 (T - T') - 1) = T - T' - 1 := by unfold wrap64; omega
        have hbw := Blk.new_at wr 57 #[.int .i64 T, .int .i64 V] (g := wr.heap.size) rfl
        go_wp2_with (at_builtin; go_must (refine wpList_append_all elem64 rfl (.tmp 24) (.tmp 36) rfl rfl ((hm.alloc _).alloc _) rfl (reads_new_at _ 2 #[_, _] 2 _ _ rfl (by simp) rfl) (by simp [Value.oneCell']) (by omega) (by unfold maxLen; omega) ?_); intro v' w' hm' hg'; have hbx := Blk.grown (hbw.alloc _) hg' (Ne.symm hfr); have hbg := Blk.grown ((hbk.alloc _).alloc _) hg' (Ne.symm hno); have x0 := hbx.cell 0; have x1 := hbx.cell 1; have y0 := hbg.cell 0; have y1 := hbg.cell 1; have z0 := hbg.frozen 0; have z1 := hbg.frozen 1; simp at x0 x1 y0 y1)
        have e : i64s (numK l k) ++ [.int .i64 (T - T' - 1), .int .i64 (V - V')] = i64s (numK l (k + 1)) := by rw [HS.out]; simp [i64s]
        go_roundw
        case rel =>
          refine ⟨k + 1, by omega, by go_num, ?_, ?_⟩
          · rw [← e]
            exact (hm'.set_ (by show _ ≤ w1.heap.size + 1; omega) (own_ne hm'.own hbg (by decide)) _).set_ (by show _ ≤ w1.heap.size + 1; omega) (own_ne hm'.own hbg (by decide)) _
          · rw [HLS.out]
            exact (hbg.set_ 0 _).set_ 1 _
        case measure => simp [intOf]; omega
      · have hkn : k = n := by omega
        have en : numK l k = numL l := by unfold numK numL; rw [List.take_of_length_le (by have := HN.out; omega)]
        have hsm : Small (numL l) := by
          refine small_of fun x hx => ?_
          unfold numL at hx
          rcases List.mem_cons.1 hx with rfl | hx
          · have := HN.out; omega
          · exact difF_small l hok (-1) 0 (by omega) (by omega) (by omega) HC.out x hx
        rw [en] at hm lk
        obtain ⟨A2, c2, rfl, _, _, hq⟩ := hm.form
        have lk2 : (i64s (numL l)).length ≤ 100000 := by omega
        clear hkn en lk
        go_wp2_with fail
        refine (put_at (numL l) _ lk2 hsm _ _ _ hq).mono ?_
        rintro e w3 ⟨v3, rfl, hm3⟩
        have hm4 := hm3.lower hm.below
        go_wp2
        go_ret2
        exact ⟨_, by first | rfl | (rw [H0.out]; rfl), by rw [packB_ok H0.out]; exact hm4⟩
  · have H0 := Lib.hid h0
    have hb' : (checkS l != 0) = true := by simpa using h0
    clear hn h0
    go_enter Try.func25, Try.ntmps25
    go_wp2_with fail
    refine (check_any l _ _ _ _ hr (by omega)).mono ?_
    rintro e w1 ⟨rfl, hb1⟩
    go_wp2
    go_ret2
    exact ⟨_, rfl, by rw [packB_bad H0.out]; exact Mine.nil_at hb1 5⟩

theorem psize_any (l : List Smp) (A : Option Addr) (c n : Nat) (w : World) (hr : Reads w w.heap.size 2 A n (smps l)) (hl : n ≤ 10000) (hok : ∀ x ∈ l, x.ok) :
    Calls Try.prog 27 #[.slice A n c] w fun e w' => e = .returned (.int .i64 ((packB l).length : Int)) ∧ Below w.heap.size w w' := by
  go_enter Try.func27, Try.ntmps27
  go_wp2_with fail
  refine (pput_any l _ _ _ _ hr hl hok).mono ?_
  rintro e w1 ⟨v, rfl, hm⟩
  have hb := hm.below
  have hlen := bys_length (packB l)
  have HL := Lib.hid hlen
  obtain ⟨A2, c2, rfl, _, _, _⟩ := hm.form
  clear hlen
  go_wp2
  go_ret
  exact ⟨ret_i (by rw [HL.out]), hb⟩

theorem rput11_any (l : List Smp) (A : Option Addr) (c n : Nat) (w : World) (hr : Reads w w.heap.size 2 A n (smps l)) (hl : n ≤ 10000) (hok : ∀ x ∈ l, x.ok) (hc : chk (-1) l = 0) :
    Calls Try.prog 24 #[.slice A n c] w fun e w' => ∃ v, e = .returned v ∧ Mine w w' 5 v (bys (putL (numL l))) := by
  have hn := smp_len hr
  have HN := Lib.hid hn
  have HC := Lib.hid hc
  clear hn hc
  go_enter Try.func24, Try.ntmps24
  go_wp2_with fail
  refine (rput_any _ _ (by omega) (by omega)).mono ?_
  rintro e w1 ⟨v1, rfl, hm1⟩
  go_wp2_with fail
  go_loopw [3, 4] (fun v i wr => ∃ (k : Nat), k ≤ n ∧ i = .int .i64 k ∧ Mine w wr 5 v (bys (putL (numK l k)))) (fun _ i _ => n - (intOf i).toNat)
  case atStart => exact ⟨0, by omega, rfl, by unfold numK; rw [← HN.out]; simpa [putL, difF] using hm1⟩
  case round =>
    obtain ⟨k, hk, rfl, hm⟩ := hrel
    by_cases hlt : k < n
    · have hkl : k < l.length := by have := HN.out; omega
      have hkl2 : k - 1 < l.length := by omega
      obtain ⟨bl, off, rfl, h0, h1, h2, h3⟩ := smp_two (hr.up hm.below) hkl hkl2
      have hs := numK_succ hkl
      have hi := lastS_in hok HC.out k (by omega)
      have hxo := hok _ (List.getElem_mem hkl)
      have hxc := chk_all l _ HC.out _ (List.getElem_mem hkl)
      obtain ⟨xt, xv⟩ := hxo
      obtain ⟨xt0, xv0⟩ := hxc
      unfold In64 at xt xv
      have hp : 0 < k → lastS l k = l[k - 1] := by
        intro h
        have := lastS_succ hkl2
        rwa [show k - 1 + 1 = k by omega] at this
      have hz : k = 0 → lastS l k = ⟨-1, 0⟩ := by rintro rfl; rfl
      generalize hX : l[k] = X at *
      generalize hY : l[k - 1] = Y at *
      generalize hL : lastS l k = L at *
      obtain ⟨T, V⟩ := X
      obtain ⟨T', V'⟩ := L
      obtain ⟨PT, PV⟩ := Y
      simp only at hs hi xt xv xt0 xv0 h0 h1 h2 h3
      have hW : wrap64 (wrap64 (T - T') - 1) = T - T' - 1 := by unfold wrap64; omega
      have e1 : putL (numK l (k + 1)) = (putL (numK l k) ++ putN (T - T' - 1)) ++ putN (V - V') := by rw [hs]; simp [putL]
      have HE := Lib.hid e1
      have d1a : -9223372036854775808 ≤ T - T' - 1 := by omega
      have d1b : T - T' - 1 ≤ 9223372036854775807 := by omega
      have d2a : -9223372036854775808 ≤ V - V' := by omega
      have d2b : V - V' ≤ 9223372036854775807 := by omega
      have lk : (putL (numK l k)).length ≤ 10 * (2 * k + 1) := by
        refine Nat.le_trans (putL_length _) ?_
        unfold numK
        rw [List.length_cons, difF_length]
        have := List.length_take_le k l
        omega
      have p1 := putN_length (T - T' - 1)
      have p2 := putN_length (V - V')
      have lb : (bys (putL (numK l k))).length ≤ 10 * (2 * k + 1) := by rw [bys_length]; exact lk
      have q1 : (bys (putN (T - T' - 1))).length ≤ 10 := by rw [bys_length]; exact p1.2
      have q2 : (bys (putN (V - V'))).length ≤ 10 := by rw [bys_length]; exact p2.2
      clear hs hX hY hL e1 p1 p2 lk
      by_cases hk0 : 0 < k
      · have he := hp hk0
        simp only [Smp.mk.injEq] at he
        obtain ⟨rfl, rfl⟩ := he
        have i1 : (0 : Int) < (k : Int) := by omega
        have i2 : (0 : Int) ≤ (k : Int) - 1 := by omega
        have i3 : (k : Int) - 1 < (n : Int) := by omega
        clear hp hz hk0
        go_wp2_with fail
        refine (rput_any _ _ d1a d1b).mono ?_
        rintro e w2 ⟨v2, rfl, hm2⟩
        have hm3 := hm.later hm2.below
        obtain ⟨A2, c2, rfl, _, _, hq2⟩ := hm2.form
        go_wp2_with (at_builtin; refine wpList_append_all elem8 rfl (.tmp 45) (.tmp 47) rfl rfl hm3 rfl hq2 (bys_one _) (by omega) (by unfold maxLen; omega) ?_; intro v3 w3 hm4 hg4)
        refine (rput_any _ _ d2a d2b).mono ?_
        rintro e w4 ⟨v4, rfl, hm5⟩
        have hm6 := hm4.later hm5.below
        obtain ⟨A5, c5, rfl, _, _, hq5⟩ := hm5.form
        have lx : (bys (putL (numK l k)) ++ bys (putN (T - T' - 1))).length ≤ 10 * (2 * k + 1) + 10 := by rw [List.length_append]; omega
        go_wp2_with (at_builtin; refine wpList_append_all elem8 rfl (.tmp 49) (.tmp 51) rfl rfl hm6 rfl hq5 (bys_one _) (by omega) (by unfold maxLen; omega) ?_; intro v6 w6 hm7 hg7)
        rw [bys_app, bys_app, ← HE.out] at hm7
        go_roundw
        case rel => exact ⟨k + 1, by omega, by go_num, hm7⟩
        case measure => simp [intOf]; omega
      · have he := hz (by omega)
        simp only [Smp.mk.injEq] at he
        obtain ⟨rfl, rfl⟩ := he
        have i1 : ¬ (0 : Int) < (k : Int) := by omega
        have s1 : T - -1 - 1 = T := by omega
        have s2 : V - 0 = V := by omega
        rw [s1] at d1a d1b q1 HE
        rw [s2] at d2a d2b q2 HE
        clear hp hz hk0 hW s1 s2
        go_wp2_with fail
        refine (rput_any _ _ d1a d1b).mono ?_
        rintro e w2 ⟨v2, rfl, hm2⟩
        have hm3 := hm.later hm2.below
        obtain ⟨A2, c2, rfl, _, _, hq2⟩ := hm2.form
        go_wp2_with (at_builtin; refine wpList_append_all elem8 rfl (.tmp 45) (.tmp 47) rfl rfl hm3 rfl hq2 (bys_one _) (by omega) (by unfold maxLen; omega) ?_; intro v3 w3 hm4 hg4)
        refine (rput_any _ _ d2a d2b).mono ?_
        rintro e w4 ⟨v4, rfl, hm5⟩
        have hm6 := hm4.later hm5.below
        obtain ⟨A5, c5, rfl, _, _, hq5⟩ := hm5.form
        have lx : (bys (putL (numK l k)) ++ bys (putN (T))).length ≤ 10 * (2 * k + 1) + 10 := by rw [List.length_append]; omega
        go_wp2_with (at_builtin; refine wpList_append_all elem8 rfl (.tmp 49) (.tmp 51) rfl rfl hm6 rfl hq5 (bys_one _) (by omega) (by unfold maxLen; omega) ?_; intro v6 w6 hm7 hg7)
        rw [bys_app, bys_app, ← HE.out] at hm7
        go_roundw
        case rel => exact ⟨k + 1, by omega, by go_num, hm7⟩
        case measure => simp [intOf]; omega
    · have en : numK l k = numL l := by unfold numK numL; rw [List.take_of_length_le (by have := HN.out; omega)]
      rw [en] at hm
      go_wp2
      go_ret
      exact ⟨_, rfl, hm⟩
end Go.Proofs.Ytomncdnkiommfaa
