/-
  BudgetFits: the walk of budget.Fit, and of the law. Condition: none.
-/
import Derived.Test.YtkkhdjlloibiiaaBudFair
namespace Go.Proofs.Ytkkhdjlloibiiaa
open Go.RowKit Go.Fw
set_option maxHeartbeats 2000000
set_option maxRecDepth 4000
set_option linter.unusedVariables false
set_option linter.unusedSimpArgs false
theorem elemAdv : ElemS Try.prog 35 40 (.agg #[.int .i64 0, .int .i64 0, .int .i64 0, .int .i64 0, .int .i64 0]) 5 40 := ⟨Try.underlying35, by kernel_rfl, rfl⟩

theorem fit_any (total : Int) (a : List Adv) (p : List Pol) (A A2 : Option Addr) (c c2 n m : Nat) (w : World) (hr : Reads w w.heap.size 5 A n (advs a)) (hr2 : Reads w w.heap.size 6 A2 m (pols p)) (hl : n ≤ 100) (hl2 : m ≤ 100) (ht : In64 total) (ha : ∀ x ∈ a, x.ok) (hp : ∀ x ∈ p, In64 x.q.1) (hnm : n = m) :
    Calls Try.prog 13 #[.int .i64 total, .slice A n c, .slice A2 m c2] w fun e w' => ∃ v, e = .returned (.tuple #[v, .int .i64 (bcheck total (fitW a p))]) ∧ MineS 5 w w' 40 v (fitO a (sharesOf total (fitW a p))).length (advs (fitO a (sharesOf total (fitW a p)))) := by
  have hn := adv_len hr
  have hn2 := pol_len hr2
  have HN := Lib.hid hn
  have HN2 := Lib.hid hn2
  subst hnm
  clear hn hn2
  have hne : ((n : Int) != (n : Int)) = false := by simp
  go_enter Try.func13, Try.ntmps13
  go_wp2
  go_loopw [8, 23] (fun v i wr => ∃ (k : Nat), k ≤ n ∧ i = .int .i64 k ∧ MineS 2 w wr 48 v k (wnts ((fitW a p).take k))) (fun _ i _ => n - (intOf i).toNat)
  case atStart => exact ⟨0, by omega, rfl, MineS.nil_ 2 _ _⟩
  case round =>
    obtain ⟨k, hk, rfl, hm⟩ := hrel
    obtain ⟨v, hv⟩ : ∃ v, v = u8 := ⟨_, rfl⟩
    subst hv
    by_cases hlt : k < n
    · have hka : k < a.length := by have := HN.out; omega
      have hkp : k < p.length := by have := HN2.out; omega
      have hkw : k < (fitW a p).length := by rw [fitW_length (by have := HN.out; have := HN2.out; omega)]; exact hka
      obtain ⟨bl, off, rfl, hbl, g0, g1, g2, g3, g4⟩ := adv_at (hr.up hm.below) hka
      obtain ⟨bp, op, rfl, hbp, p0⟩ := pol_at (hr2.below hm.below) hkp
      have hs : wnts ((fitW a p).take (k + 1)) = wnts ((fitW a p).take k) ++ (fitW a p)[k].cells := by rw [wnts_snoc, List.take_succ_eq_append_getElem hkw]
      rw [fitW_get hkw hka hkp] at hs
      have hax := (ha _ (List.getElem_mem hka)).reps
      generalize a[k] = x at *
      obtain ⟨x0, x1, x2, x3, x4⟩ := x
      generalize p[k].q.1 = y at *
      simp only at g0 g1 g2 g3 g4 hs hax
      have HS := Lib.hid hs
      clear hs
      have hbp2 : bp < wr.heap.size := by have := hm.le; omega
      have hkb := Blk.new_at wr 40 #[.int .i64 x0, .int .i64 x1, .int .i64 x2, .int .i64 x3, .int .i64 x4] (g := wr.heap.size) rfl
      have hm2 := hm.alloc (.cells #[.int .i64 x0, .int .i64 x1, .int .i64 x2, .int .i64 x3, .int .i64 x4] 40)
      have c3 : (wr.alloc (.cells #[.int .i64 x0, .int .i64 x1, .int .i64 x2, .int .i64 x3, .int .i64 x4] 40)).cell? ⟨wr.heap.size, 3, none⟩ = some (.int .i64 x3) := hkb.cell 3
      have pc : (wr.alloc (.cells #[.int .i64 x0, .int .i64 x1, .int .i64 x2, .int .i64 x3, .int .i64 x4] 40)).cell? ⟨bp, op + k * 6, none⟩ = some (.int .i64 y) := (World.cell?_alloc_lt wr _ _ hbp2).trans p0
      have hi2 : (k : Int) < (n : Int) := by omega
      go_wp2
      generalize hW1 : wr.alloc (.cells #[.int .i64 x0, .int .i64 x1, .int .i64 x2, .int .i64 x3, .int .i64 x4] 40) = W1 at *
      clear hW1
      have hdr : ∀ q, W1.drew.cell? q = W1.cell? q := fun _ => rfl
      refine any_start (S := fun W => W.cell? ⟨bp, op + k * 6, none⟩ = some (.int .i64 y) ∧ W.cell? ⟨wr.heap.size, 3, none⟩ = some (.int .i64 x3)) (by kernel_rfl) ⟨(hdr _).trans pc, (hdr _).trans c3⟩ ?_
      have l3 := World.block_lt_of_cell? W1 _ c3
      have lp := World.block_lt_of_cell? W1 _ pc
      have hq1 : some bp ≠ v.ownBlock := fun e => by have := (hm.own.lt _ e.symm).1; omega
      have hq2 : some wr.heap.size ≠ v.ownBlock := Ne.symm (own_new hm.own)
      have hS0 : W1.drew.cell? ⟨bp, op + k * 6, none⟩ = some (.int .i64 y) ∧ W1.drew.cell? ⟨wr.heap.size, 3, none⟩ = some (.int .i64 x3) := ⟨(hdr _).trans pc, (hdr _).trans c3⟩
      clear g0 g1 g2 g3 g4 p0
      simp only [List.length_cons, List.length_nil, Nat.reduceAdd, List.size_toArray]
      refine any_pure 0 (v := ?_) rfl (by kernel_rfl) (by intro _ _ _ h; exact h) (by assumption) (by rfl) (fun W hW => ?_) ?_
      rotate_left
      · first | (go_simp; done) | (go_simp; with_reducible rfl)
      try simp only [Act.put, List.setIfInBounds_toArray, List.set_cons_zero, List.set_cons_succ]
      refine any_pure 1 (v := ?_) rfl (by kernel_rfl) (by intro _ _ _ h; exact h) (by assumption) (by rfl) (fun W hW => ?_) ?_
      rotate_left
      · first | (go_simp; done) | (go_simp; with_reducible rfl)
      try simp only [Act.put, List.setIfInBounds_toArray, List.set_cons_zero, List.set_cons_succ]
      refine any_pure 2 (v := ?_) rfl (by kernel_rfl) (by intro _ _ _ h; exact h) (by assumption) (by rfl) (fun W hW => ?_) ?_
      rotate_left
      · first | (go_simp; done) | (go_simp; with_reducible rfl)
      try simp only [Act.put, List.setIfInBounds_toArray, List.set_cons_zero, List.set_cons_succ]
      refine any_pure 3 (v := ?_) rfl (by kernel_rfl) (by intro _ _ _ h; exact h) (by assumption) (by rfl) (fun W hW => ?_) ?_
      rotate_left
      · first | (go_simp; done) | (go_simp; with_reducible rfl)
      try simp only [Act.put, List.setIfInBounds_toArray, List.set_cons_zero, List.set_cons_succ]
      refine any_pure 4 (v := ?_) rfl (by kernel_rfl) (by intro _ _ _ h; exact h) (by assumption) (by rfl) (fun W hW => ?_) ?_
      rotate_left
      · first | (go_simp; done) | (go_simp; with_reducible rfl)
      try simp only [Act.put, List.setIfInBounds_toArray, List.set_cons_zero, List.set_cons_succ]
      refine any_pure 5 (v := ?_) rfl (by kernel_rfl) (by intro _ _ _ h; exact h) (by assumption) (by rfl) (fun W hW => ?_) ?_
      rotate_left
      · obtain ⟨q1, q2⟩ := hW; first | (go_simp; done) | (go_simp; with_reducible rfl)
      try simp only [Act.put, List.setIfInBounds_toArray, List.set_cons_zero, List.set_cons_succ]
      refine any_pure 6 (v := ?_) rfl (by kernel_rfl) (by intro _ _ _ h; exact h) (by assumption) (by rfl) (fun W hW => ?_) ?_
      rotate_left
      · first | (go_simp; done) | (go_simp; with_reducible rfl)
      try simp only [Act.put, List.setIfInBounds_toArray, List.set_cons_zero, List.set_cons_succ]
      refine any_pure 7 (v := ?_) rfl (by kernel_rfl) (by intro _ _ _ h; exact h) (by assumption) (by rfl) (fun W hW => ?_) ?_
      rotate_left
      · obtain ⟨q1, q2⟩ := hW; first | (go_simp; done) | (go_simp; with_reducible rfl)
      try simp only [Act.put, List.setIfInBounds_toArray, List.set_cons_zero, List.set_cons_succ]
      refine any_pure 8 (v := ?_) rfl (by kernel_rfl) (by intro _ _ _ h; exact h) (by assumption) (by rfl) (fun W hW => ?_) ?_
      rotate_left
      · first | (go_simp; done) | (go_simp; with_reducible rfl)
      try simp only [Act.put, List.setIfInBounds_toArray, List.set_cons_zero, List.set_cons_succ]
      refine any_pure 9 (v := ?_) rfl (by kernel_rfl) (by intro _ _ _ h; exact h) (by assumption) (by rfl) (fun W hW => ?_) ?_
      rotate_left
      · first | (go_simp; done) | (go_simp; with_reducible rfl)
      try simp only [Act.put, List.setIfInBounds_toArray, List.set_cons_zero, List.set_cons_succ]
      refine any_pure 10 (v := ?_) rfl (by kernel_rfl) (by intro _ _ _ h; exact h) (by assumption) (by rfl) (fun W hW => ?_) ?_
      rotate_left
      · obtain ⟨q1, q2⟩ := hW; first | (go_simp; done) | (go_simp; with_reducible rfl)
      try simp only [Act.put, List.setIfInBounds_toArray, List.set_cons_zero, List.set_cons_succ]
      refine any_pure 11 (v := ?_) rfl (by kernel_rfl) (by intro _ _ _ h; exact h) (by assumption) (by rfl) (fun W hW => ?_) ?_
      rotate_left
      · first | (go_simp; done) | (go_simp; with_reducible rfl)
      try simp only [Act.put, List.setIfInBounds_toArray, List.set_cons_zero, List.set_cons_succ]
      refine any_one 12 (by kernel_rfl) rfl (by rfl) (fun K hK => ?_)
      go_simp
      generalize hM : (if x3 < y then x3 else y) = M at *
      have HM := Lib.hid hM
      clear hM
      refine hK _ _ ⟨(World.cell?_alloc_lt W1 _ _ lp).trans pc, (World.cell?_alloc_lt W1 _ _ l3).trans c3⟩ ?_
      clear hK
      have hS1 : (W1.alloc (Obj.cells #[Value.int IntKind.i64 M, Value.int IntKind.i64 x3] 48)).drew.cell? ⟨bp, op + k * 6, none⟩ = some (.int .i64 y) ∧ (W1.alloc (Obj.cells #[Value.int IntKind.i64 M, Value.int IntKind.i64 x3] 48)).drew.cell? ⟨wr.heap.size, 3, none⟩ = some (.int .i64 x3) := ⟨(World.cell?_alloc_lt W1 _ _ lp).trans pc, (World.cell?_alloc_lt W1 _ _ l3).trans c3⟩
      try simp only [Act.put, List.setIfInBounds_toArray, List.set_cons_zero, List.set_cons_succ]
      refine any_one 13 (by kernel_rfl) rfl (by rfl) (fun K hK => ?_)
      rw [show (W1.alloc (Obj.cells #[Value.int IntKind.i64 M, Value.int IntKind.i64 x3] 48)).drew = W1.drew.alloc (Obj.cells #[Value.int IntKind.i64 M, Value.int IntKind.i64 x3] 48) from rfl]
      have hm3 : MineS 2 w W1.drew 48 v k (wnts ((fitW a p).take k)) := hm2.later (Below.refl _ _).drew
      refine wp_append_oneG elemWant (by decide) (.tmp 28) (.tmp 40) rfl rfl hm3.own hm3.le rfl rfl rfl (wnts_one ⟨_, _⟩) (by omega) (by unfold maxLen; omega) ?_
      intro v' w' hm' hg'
      refine hK _ _ ⟨(World.cell?_of_block (hg'.block bp lp hq1)).trans hS0.1, (World.cell?_of_block (hg'.block wr.heap.size l3 hq2)).trans hS0.2⟩ ?_
      have hm4 := hm3.app hg' hm'
      have hS2 : w'.cell? ⟨bp, op + k * 6, none⟩ = some (.int .i64 y) ∧ w'.cell? ⟨wr.heap.size, 3, none⟩ = some (.int .i64 x3) := ⟨(World.cell?_of_block (hg'.block bp lp hq1)).trans hS0.1, (World.cell?_of_block (hg'.block wr.heap.size l3 hq2)).trans hS0.2⟩
      clear hK
      try simp only [Act.put, List.setIfInBounds_toArray, List.set_cons_zero, List.set_cons_succ]
      refine any_pure 14 (v := ?_) rfl (by kernel_rfl) (by intro _ _ _ h; exact h) (by assumption) (by rfl) (fun W hW => ?_) ?_
      rotate_left
      · first | (go_simp; done) | (go_simp; with_reducible rfl)
      try simp only [Act.put, List.setIfInBounds_toArray, List.set_cons_zero, List.set_cons_succ]
      refine any_done (by kernel_rfl) ?_
      go_wp2
      go_roundw
      case rel => exact ⟨k + 1, by omega, by go_num, by rw [HS.out]; exact hm4⟩
      case measure => simp [intOf]; omega
    · have hkn : k = n := by omega
      have e : (fitW a p).take k = fitW a p := List.take_of_length_le (by rw [fitW_length (by have := HN.out; have := HN2.out; omega)]; have := HN.out; omega)
      rw [e, hkn] at hm
      clear e hkn hne
      obtain ⟨A3, c3, rfl, _, _, hq⟩ := hm.form
      have hb1 := hm.below
      clear hm
      go_wp2_with fail
      refine (share_at total (fitW a p) _ _ _ _ hq (by omega) ht (fitW_ok ha hp)).mono ?_
      rintro e w3 ⟨A4, d4, rfl, hb3, hq3⟩
      have hb3' := sub_trans hb1 hb3
      have hr3 := hr.up hb3'
      clear hq hb1 hb3 hr hr2
      by_cases h0 : bcheck total (fitW a p) = 0
      · have hsh := sharesOf_ok h0
        have hln : (sharesOf total (fitW a p)).length = n := by rw [hsh, shareL_length, fitW_length (by have := HN.out; have := HN2.out; omega), HN.out]
        have H0 := Lib.hid h0
        have HLN := Lib.hid hln
        have hsm : Small (sharesOf total (fitW a p)) := by rw [hsh]; exact ShInv.small (shareL_inv h0 (fitW_ok ha hp))
        rw [hln] at hq3 ⊢
        rw [h0]
        generalize hshe : sharesOf total (fitW a p) = sh at *
        have HSE := Lib.hid hshe
        clear hsh h0 hln hshe
        go_wp2_with fail
        go_loopw [13, 54] (fun v i wr => ∃ (k : Nat), k ≤ n ∧ i = .int .i64 k ∧ MineS 5 w3 wr 40 v k (advs ((fitO a sh).take k))) (fun _ i _ => n - (intOf i).toNat)
        case atStart => exact ⟨0, by omega, rfl, MineS.nil_ 5 _ _⟩
        case round =>
          obtain ⟨k, hk, rfl, hm⟩ := hrel
          obtain ⟨v, hv⟩ : ∃ v, v = u13 := ⟨_, rfl⟩
          subst hv
          by_cases hlt : k < n
          · have hka : k < a.length := by have := HN.out; omega
            have hks : k < sh.length := by have := HLN.out; omega
            have hko : k < (fitO a sh).length := by rw [fitO_length (by have := HN.out; have := HLN.out; omega)]; exact hka
            obtain ⟨bl, off, rfl, hbl, g0, g1, g2, g3, g4⟩ := adv_at (hr3.up hm.below) hka
            obtain ⟨ad, u, rfl, hbl2, hx, g5⟩ := (hq3.below hm.below).at_ hlt
            obtain rfl := i64s_get hx hks
            have hs : advs ((fitO a sh).take (k + 1)) = advs ((fitO a sh).take k) ++ (fitO a sh)[k].cells := by rw [advs_snoc, List.take_succ_eq_append_getElem hko]
            rw [fitO_get hko hka hks] at hs
            generalize a[k] = x at *
            obtain ⟨x0, x1, x2, x3, x4⟩ := x
            generalize sh[k] = y at *
            simp only at g0 g1 g2 g3 g4 hs
            have HS := Lib.hid hs
            have a5 : ∀ o, (wr.alloc o).cell? (ad.add k) = some (.int .i64 y) := fun o => (World.cell?_alloc_lt wr o _ (World.block_lt_of_cell? wr _ g5)).trans g5
            have hi2 : (k : Int) < (n : Int) := by omega
            have hm2 := hm.alloc (.cells #[.int .i64 x0, .int .i64 x1, .int .i64 x2, .int .i64 y, .int .i64 x4] 40)
            clear hs hx
            go_wp2_with (at_builtin; go_must (refine wpList_append_oneG elemAdv (by decide) rfl (.tmp 64) (.tmp 66) rfl rfl hm2.own hm2.le (by simp) rfl rfl (by simp [Value.oneCell']) (by omega) (by unfold maxLen; omega) ?_); intro v' w' hm' hg')
            go_roundw
            case rel => exact ⟨k + 1, by omega, by go_num, by rw [HS.out]; exact hm2.app hg' hm'⟩
            case measure => simp [intOf]; omega
          · have hkn : k = n := by omega
            have e : (fitO a sh).take k = fitO a sh := List.take_of_length_le (by rw [fitO_length (by have := HN.out; have := HLN.out; omega)]; have := HN.out; omega)
            have e2 : (fitO a sh).length = n := by rw [fitO_length (by have := HN.out; have := HLN.out; omega)]; exact HN.out.symm
            rw [e, hkn] at hm
            have hm3 : MineS 5 w wr 40 v (fitO a sh).length (advs (fitO a sh)) := by rw [e2]; exact hm.lower hb3'
            clear e e2 hkn hm
            go_wp2
            go_ret2
            exact ⟨v, by rw [H0.out]; rfl, by rw [HSE.out]; exact hm3⟩
      · have hsh := sharesOf_bad h0
        have hb' : (bcheck total (fitW a p) != 0) = true := by simpa using h0
        have HE : Hid (fitO a (sharesOf total (fitW a p)) = []) := by show _ = _; rw [hsh]; simp [fitO]
        have H0 := Lib.hid h0
        clear h0 hsh
        go_wp2
        go_ret2
        exact ⟨_, rfl, by rw [HE.out]; exact MineS.nil_at 5 hb3' _⟩

theorem fit_at (total : Int) (a : List Adv) (p : List Pol) (A A2 : Option Addr) (c c2 n m : Nat) (w : World) (hr : Reads w w.heap.size 5 A n (advs a)) (hr2 : Reads w w.heap.size 6 A2 m (pols p)) (hl : n ≤ 100) (hl2 : m ≤ 100) (ht : In64 total) (ha : ∀ x ∈ a, x.ok) (hp : ∀ x ∈ p, In64 x.q.1) (hnm : n = m) :
    Calls Try.prog 13 #[.int .i64 total, .slice A n c, .slice A2 m c2] w fun e w' => ∃ B d, e = .returned (.tuple #[.slice B (fitO a (sharesOf total (fitW a p))).length d, .int .i64 (bcheck total (fitW a p))]) ∧ Below w.heap.size w w' ∧ Reads w' w'.heap.size 5 B (fitO a (sharesOf total (fitW a p))).length (advs (fitO a (sharesOf total (fitW a p)))) := by
  refine (fit_any total a p A A2 c c2 n m w hr hr2 hl hl2 ht ha hp hnm).mono ?_
  rintro e w' ⟨v, rfl, hm⟩
  obtain ⟨B, d, rfl, _, _, hq⟩ := hm.form
  exact ⟨B, d, rfl, hm.below, hq⟩
theorem fit_no (total : Int) (A A2 : Option Addr) (c c2 n m : Nat) (w : World) (hl : n ≤ 100) (hl2 : m ≤ 100) (hnm : n ≠ m) :
    Calls Try.prog 13 #[.int .i64 total, .slice A n c, .slice A2 m c2] w fun e w' => e = .returned (.tuple #[.slice none 0 0, .int .i64 10]) ∧ w = w' := by
  have hne : ((n : Int) != (m : Int)) = true := by simp; omega
  go_enter Try.func13, Try.ntmps13
  go_wp2
  go_ret2
  exact ⟨rfl, rfl⟩
theorem elemWantR : ElemS Try.prog 22 44 (.agg #[.int .i64 0, .int .i64 0]) 2 16 := ⟨Try.underlying22, by kernel_rfl, rfl⟩
theorem neq_adv (a b : Adv) (w : World) : (binOp .neq 40 (.agg #[.int .i64 a.tick, .int .i64 a.load, .int .i64 a.want, .int .i64 a.reps, .int .i64 a.why]) (.agg #[.int .i64 b.tick, .int .i64 b.load, .int .i64 b.want, .int .i64 b.reps, .int .i64 b.why])).run Try.prog w = .ok (.bool (!decide (a = b))) w := by
  have hu := Try.underlying40
  obtain ⟨a0, a1, a2, a3, a4⟩ := a
  obtain ⟨b0, b1, b2, b3, b4⟩ := b
  simp only [Adv.mk.injEq]
  by_cases h0 : a0 = b0
  · by_cases h1 : a1 = b1
    · by_cases h2 : a2 = b2
      · by_cases h3 : a3 = b3
        · by_cases h4 : a4 = b4
          · subst h0 h1 h2 h3 h4; go_simp
          · go_simp
        · go_simp
      · go_simp
    · go_simp
  · go_simp

theorem neq_adv_of {a b : Adv} (r : Bool) (h : (!decide (a = b)) = r) : ∀ w : World, (binOp .neq 40 (.agg #[.int .i64 a.tick, .int .i64 a.load, .int .i64 a.want, .int .i64 a.reps, .int .i64 a.why]) (.agg #[.int .i64 b.tick, .int .i64 b.load, .int .i64 b.want, .int .i64 b.reps, .int .i64 b.why])).run Try.prog w = .ok (.bool r) w := fun w => by rw [neq_adv, h]

theorem budgetFits_walk (total : Int) (a : List Adv) (A : Option Addr) (c : Nat) (p : List Pol) (A2 : Option Addr) (c2 : Nat) (w : World) (ht : -9223372036854775808 ≤ total ∧ total ≤ 9223372036854775807) (hr : Reads w w.heap.size 5 A a.length (advs a)) (ha : ∀ x ∈ a, x.ok) (hlc : a.length ≤ maxLen ∧ a.length ≤ c)
    (hr2 : Reads w w.heap.size 6 A2 p.length (pols p)) (hp : ∀ x ∈ p, In64 x.q.1) (hlc2 : p.length ≤ maxLen ∧ p.length ≤ c2) :
    Calls Try.prog 4 #[.int .i64 total, .slice A a.length c, .slice A2 p.length c2] w fun e w' => e = .returned (.bool true) ∧ Below w.heap.size w w' := by
  have hl := hlc.1
  have hl2 := hlc2.1
  clear hlc hlc2
  unfold maxLen at hl hl2
  obtain ⟨n, hn⟩ : ∃ n, n = a.length := ⟨_, rfl⟩
  obtain ⟨m, hm⟩ : ∃ m, m = p.length := ⟨_, rfl⟩
  have HN := Lib.hid hn
  have HM := Lib.hid hm
  rw [← hn] at hr hl ⊢
  rw [← hm] at hr2 hl2 ⊢
  clear hn hm
  have ht0 := ht.1
  have ht1 := ht.2
  have hi : In64 total := ht
  clear ht
  by_cases h : 20 < n ∨ 20 < m ∨ 200 < total
  · have hc : 20 < n ∨ (¬ 20 < n ∧ 20 < m) ∨ (¬ 20 < n ∧ ¬ 20 < m ∧ 200 < total) := by omega
    clear h
    rcases hc with h | ⟨h, h2⟩ | ⟨h, h2, h3⟩
    all_goals
      go_enter Try.func4, Try.ntmps4
      go_wp2_with fail
      refine (awake51_any w).mono ?_
      rintro e1 w1 ⟨rfl, hb⟩
      go_wp2
      go_ret
      exact ⟨rfl, hb⟩
  · have h1 : ¬ 20 < n := by omega
    have h2 : ¬ 20 < m := by omega
    have h3 : ¬ 200 < total := by omega
    clear h
    by_cases hnm : n = m
    · have hne : ((n : Int) != (m : Int)) = false := by simp; omega
      subst hnm
      obtain ⟨code, hcode⟩ : ∃ code, code = bcheck total (fitW a p) := ⟨_, rfl⟩
      have HC := Lib.hid hcode
      have hok := fitW_ok ha hp
      have hwl : (fitW a p).length = n := by rw [fitW_length (by have := HN.out; have := HM.out; omega), HN.out]
      have HWL := Lib.hid hwl
      obtain ⟨out, hout⟩ : ∃ out, out = fitO a (sharesOf total (fitW a p)) := ⟨_, rfl⟩
      have HO := Lib.hid hout
      have hend : code ≠ 0 → out = [] := by
        intro h
        rw [hout, sharesOf_bad (by rw [← hcode]; exact h)]
        simp [fitO]
      have HE := Lib.hid hend
      clear hcode hwl hout hend
      go_enter Try.func4, Try.ntmps4
      go_wp2_with fail
      refine (awake51_any w).mono ?_
      rintro e1 w1 ⟨rfl, hb⟩
      have hr1 := hr.up hb
      have hr3 := hr2.up hb
      clear hr hr2
      go_wp2_with fail
      refine (fit_at total a p _ _ _ _ _ _ _ hr1 hr3 (by omega) (by omega) hi ha hp rfl).mono ?_
      rintro e2 w2 ⟨A3, d3, rfl, hb2, hq⟩
      rw [← HO.out] at hq ⊢
      rw [← HC.out]
      have hr4 := hr1.up hb2
      have hr5 := hr3.up hb2
      have hb3 := sub_trans hb hb2
      clear hr1 hr3 hb hb2
      go_wp2_with fail
      go_loopw [9, 51] (fun v i wr => ∃ (k : Nat), k ≤ n ∧ i = .int .i64 k ∧ MineS 2 w2 wr 44 v k (wnts ((fitW a p).take k))) (fun _ i _ => n - (intOf i).toNat)
      case atStart => exact ⟨0, by omega, rfl, MineS.nil_ 2 _ _⟩
      case round =>
        obtain ⟨k, hk, rfl, hm⟩ := hrel
        obtain ⟨v, hv⟩ : ∃ v, v = u9 := ⟨_, rfl⟩
        subst hv
        by_cases hlt : k < n
        · have hka : k < a.length := by have := HN.out; omega
          have hkp : k < p.length := by have := HM.out; omega
          have hkw : k < (fitW a p).length := by have := HWL.out; omega
          obtain ⟨bl, off, rfl, hbl, g0, g1, g2, g3, g4⟩ := adv_at (hr4.up hm.below) hka
          obtain ⟨bp, op, rfl, hbp, p0⟩ := pol_at (hr5.below hm.below) hkp
          have hs : wnts ((fitW a p).take (k + 1)) = wnts ((fitW a p).take k) ++ (fitW a p)[k].cells := by rw [wnts_snoc, List.take_succ_eq_append_getElem hkw]
          rw [fitW_get hkw hka hkp] at hs
          generalize a[k] = x at *
          obtain ⟨x0, x1, x2, x3, x4⟩ := x
          generalize p[k].q.1 = y at *
          simp only at g0 g1 g2 g3 g4 hs
          have HS := Lib.hid hs
          clear hs
          have hbp2 : bp < wr.heap.size := by have := hm.le; omega
          have hkb := Blk.new_at wr 40 #[.int .i64 x0, .int .i64 x1, .int .i64 x2, .int .i64 x3, .int .i64 x4] (g := wr.heap.size) rfl
          have hm2 := hm.alloc (.cells #[.int .i64 x0, .int .i64 x1, .int .i64 x2, .int .i64 x3, .int .i64 x4] 40)
          have c3 : (wr.alloc (.cells #[.int .i64 x0, .int .i64 x1, .int .i64 x2, .int .i64 x3, .int .i64 x4] 40)).cell? ⟨wr.heap.size, 3, none⟩ = some (.int .i64 x3) := hkb.cell 3
          have pc : (wr.alloc (.cells #[.int .i64 x0, .int .i64 x1, .int .i64 x2, .int .i64 x3, .int .i64 x4] 40)).cell? ⟨bp, op + k * 6, none⟩ = some (.int .i64 y) := (World.cell?_alloc_lt wr _ _ hbp2).trans p0
          have hi2 : (k : Int) < (n : Int) := by omega
          go_wp2
          generalize hW1 : wr.alloc (.cells #[.int .i64 x0, .int .i64 x1, .int .i64 x2, .int .i64 x3, .int .i64 x4] 40) = W1 at *
          clear hW1
          have hdr : ∀ q, W1.drew.cell? q = W1.cell? q := fun _ => rfl
          refine any_start (S := fun W => W.cell? ⟨bp, op + k * 6, none⟩ = some (.int .i64 y) ∧ W.cell? ⟨wr.heap.size, 3, none⟩ = some (.int .i64 x3)) (by kernel_rfl) ⟨(hdr _).trans pc, (hdr _).trans c3⟩ ?_
          have l3 := World.block_lt_of_cell? W1 _ c3
          have lp := World.block_lt_of_cell? W1 _ pc
          have hq1 : some bp ≠ v.ownBlock := fun e => by have := (hm.own.lt _ e.symm).1; omega
          have hq2 : some wr.heap.size ≠ v.ownBlock := Ne.symm (own_new hm.own)
          have hS0 : W1.drew.cell? ⟨bp, op + k * 6, none⟩ = some (.int .i64 y) ∧ W1.drew.cell? ⟨wr.heap.size, 3, none⟩ = some (.int .i64 x3) := ⟨(hdr _).trans pc, (hdr _).trans c3⟩
          clear g0 g1 g2 g3 g4 p0
          simp only [List.length_cons, List.length_nil, Nat.reduceAdd, List.size_toArray]
          refine any_pure 0 (v := ?_) rfl (by kernel_rfl) (by intro _ _ _ h; exact h) (by assumption) (by rfl) (fun W hW => ?_) ?_
          rotate_left
          · first | (go_simp; done) | (go_simp; with_reducible rfl)
          try simp only [Act.put, List.setIfInBounds_toArray, List.set_cons_zero, List.set_cons_succ]
          refine any_pure 1 (v := ?_) rfl (by kernel_rfl) (by intro _ _ _ h; exact h) (by assumption) (by rfl) (fun W hW => ?_) ?_
          rotate_left
          · first | (go_simp; done) | (go_simp; with_reducible rfl)
          try simp only [Act.put, List.setIfInBounds_toArray, List.set_cons_zero, List.set_cons_succ]
          refine any_pure 2 (v := ?_) rfl (by kernel_rfl) (by intro _ _ _ h; exact h) (by assumption) (by rfl) (fun W hW => ?_) ?_
          rotate_left
          · first | (go_simp; done) | (go_simp; with_reducible rfl)
          try simp only [Act.put, List.setIfInBounds_toArray, List.set_cons_zero, List.set_cons_succ]
          refine any_pure 3 (v := ?_) rfl (by kernel_rfl) (by intro _ _ _ h; exact h) (by assumption) (by rfl) (fun W hW => ?_) ?_
          rotate_left
          · first | (go_simp; done) | (go_simp; with_reducible rfl)
          try simp only [Act.put, List.setIfInBounds_toArray, List.set_cons_zero, List.set_cons_succ]
          refine any_pure 4 (v := ?_) rfl (by kernel_rfl) (by intro _ _ _ h; exact h) (by assumption) (by rfl) (fun W hW => ?_) ?_
          rotate_left
          · first | (go_simp; done) | (go_simp; with_reducible rfl)
          try simp only [Act.put, List.setIfInBounds_toArray, List.set_cons_zero, List.set_cons_succ]
          refine any_pure 5 (v := ?_) rfl (by kernel_rfl) (by intro _ _ _ h; exact h) (by assumption) (by rfl) (fun W hW => ?_) ?_
          rotate_left
          · obtain ⟨q1, q2⟩ := hW; first | (go_simp; done) | (go_simp; with_reducible rfl)
          try simp only [Act.put, List.setIfInBounds_toArray, List.set_cons_zero, List.set_cons_succ]
          refine any_pure 6 (v := ?_) rfl (by kernel_rfl) (by intro _ _ _ h; exact h) (by assumption) (by rfl) (fun W hW => ?_) ?_
          rotate_left
          · first | (go_simp; done) | (go_simp; with_reducible rfl)
          try simp only [Act.put, List.setIfInBounds_toArray, List.set_cons_zero, List.set_cons_succ]
          refine any_pure 7 (v := ?_) rfl (by kernel_rfl) (by intro _ _ _ h; exact h) (by assumption) (by rfl) (fun W hW => ?_) ?_
          rotate_left
          · obtain ⟨q1, q2⟩ := hW; first | (go_simp; done) | (go_simp; with_reducible rfl)
          try simp only [Act.put, List.setIfInBounds_toArray, List.set_cons_zero, List.set_cons_succ]
          refine any_pure 8 (v := ?_) rfl (by kernel_rfl) (by intro _ _ _ h; exact h) (by assumption) (by rfl) (fun W hW => ?_) ?_
          rotate_left
          · first | (go_simp; done) | (go_simp; with_reducible rfl)
          try simp only [Act.put, List.setIfInBounds_toArray, List.set_cons_zero, List.set_cons_succ]
          refine any_pure 9 (v := ?_) rfl (by kernel_rfl) (by intro _ _ _ h; exact h) (by assumption) (by rfl) (fun W hW => ?_) ?_
          rotate_left
          · first | (go_simp; done) | (go_simp; with_reducible rfl)
          try simp only [Act.put, List.setIfInBounds_toArray, List.set_cons_zero, List.set_cons_succ]
          refine any_pure 10 (v := ?_) rfl (by kernel_rfl) (by intro _ _ _ h; exact h) (by assumption) (by rfl) (fun W hW => ?_) ?_
          rotate_left
          · obtain ⟨q1, q2⟩ := hW; first | (go_simp; done) | (go_simp; with_reducible rfl)
          try simp only [Act.put, List.setIfInBounds_toArray, List.set_cons_zero, List.set_cons_succ]
          refine any_pure 11 (v := ?_) rfl (by kernel_rfl) (by intro _ _ _ h; exact h) (by assumption) (by rfl) (fun W hW => ?_) ?_
          rotate_left
          · first | (go_simp; done) | (go_simp; with_reducible rfl)
          try simp only [Act.put, List.setIfInBounds_toArray, List.set_cons_zero, List.set_cons_succ]
          refine any_one 12 (by kernel_rfl) rfl (by rfl) (fun K hK => ?_)
          go_simp
          generalize hM : (if x3 < y then x3 else y) = M at *
          clear hM
          refine hK _ _ ⟨(World.cell?_alloc_lt W1 _ _ lp).trans pc, (World.cell?_alloc_lt W1 _ _ l3).trans c3⟩ ?_
          clear hK
          have hS1 : (W1.alloc (Obj.cells #[Value.int IntKind.i64 M, Value.int IntKind.i64 x3] 44)).drew.cell? ⟨bp, op + k * 6, none⟩ = some (.int .i64 y) ∧ (W1.alloc (Obj.cells #[Value.int IntKind.i64 M, Value.int IntKind.i64 x3] 44)).drew.cell? ⟨wr.heap.size, 3, none⟩ = some (.int .i64 x3) := ⟨(World.cell?_alloc_lt W1 _ _ lp).trans pc, (World.cell?_alloc_lt W1 _ _ l3).trans c3⟩
          try simp only [Act.put, List.setIfInBounds_toArray, List.set_cons_zero, List.set_cons_succ]
          refine any_one 13 (by kernel_rfl) rfl (by rfl) (fun K hK => ?_)
          rw [show (W1.alloc (Obj.cells #[Value.int IntKind.i64 M, Value.int IntKind.i64 x3] 44)).drew = W1.drew.alloc (Obj.cells #[Value.int IntKind.i64 M, Value.int IntKind.i64 x3] 44) from rfl]
          have hm3 : MineS 2 w2 W1.drew 44 v k (wnts ((fitW a p).take k)) := hm2.later (Below.refl _ _).drew
          refine wp_append_oneG elemWantR (by decide) (.tmp 56) (.tmp 68) rfl rfl hm3.own hm3.le rfl rfl rfl (wnts_one ⟨_, _⟩) (by omega) (by unfold maxLen; omega) ?_
          intro v' w' hm' hg'
          refine hK _ _ ⟨(World.cell?_of_block (hg'.block bp lp hq1)).trans hS0.1, (World.cell?_of_block (hg'.block wr.heap.size l3 hq2)).trans hS0.2⟩ ?_
          have hm4 := hm3.app hg' hm'
          have hS2 : w'.cell? ⟨bp, op + k * 6, none⟩ = some (.int .i64 y) ∧ w'.cell? ⟨wr.heap.size, 3, none⟩ = some (.int .i64 x3) := ⟨(World.cell?_of_block (hg'.block bp lp hq1)).trans hS0.1, (World.cell?_of_block (hg'.block wr.heap.size l3 hq2)).trans hS0.2⟩
          clear hK
          try simp only [Act.put, List.setIfInBounds_toArray, List.set_cons_zero, List.set_cons_succ]
          refine any_pure 14 (v := ?_) rfl (by kernel_rfl) (by intro _ _ _ h; exact h) (by assumption) (by rfl) (fun W hW => ?_) ?_
          rotate_left
          · first | (go_simp; done) | (go_simp; with_reducible rfl)
          try simp only [Act.put, List.setIfInBounds_toArray, List.set_cons_zero, List.set_cons_succ]
          refine any_done (by kernel_rfl) ?_
          go_wp2
          go_roundw
          case rel => exact ⟨k + 1, by omega, by go_num, by rw [HS.out]; exact hm4⟩
          case measure => simp [intOf]; omega
        · have hkn : k = n := by omega
          have e : (fitW a p).take k = fitW a p := List.take_of_length_le (by have := HWL.out; omega)
          rw [e, hkn] at hm
          obtain ⟨A5, d5, rfl, _, _, hqw⟩ := hm.form
          have hb4 := sub_trans hb3 hm.below
          have hr6 := hr4.up hm.below
          have hq2 := hq.up hm.below
          clear e hkn hm hr4 hr5 hb3 hq
          go_wp2_with fail
          refine (rbcheck_any total (fitW a p) _ _ _ _ hqw (by omega) hi hok).mono ?_
          rintro e5 w5 ⟨rfl, hb5⟩
          rw [← HC.out]
          have hb6 := sub_trans hb4 hb5
          have hr7 := hr6.up hb5
          have hq3 := hq2.up hb5
          have hqw2 := hqw.up hb5
          clear hb4 hr6 hq2 hqw hb5
          by_cases h0 : code = 0
          · have H0 := Lib.hid h0
            have hol : out.length = n := by rw [HO.out, sharesOf_ok (by rw [← HC.out, h0]), fitO_length (by rw [shareL_length, fitW_length (by have := HN.out; have := HM.out; omega)]), HN.out]
            have HOL := Lib.hid hol
            subst h0
            rw [hol] at hq3 ⊢
            clear hol
            go_wp2_with fail
            refine (rshare_at total (fitW a p) _ _ _ _ hqw2 (by omega) hok HC.out.symm).mono ?_
            rintro e7 w7 ⟨A7, d7, rfl, hb7, hq8⟩
            have hb8 := sub_trans hb6 hb7
            have hr8 := hr7.up hb7
            have hq9 := hq3.up hb7
            clear hqw2 hb6 hr7 hq3 hb7
            go_wp2_with fail
            go_loopw [99] (fun i wr => ∃ (k : Nat), k ≤ n ∧ i = .int .i64 k ∧ Below w7.heap.size w7 wr) (fun i _ => n - (intOf i).toNat)
            case atStart => exact ⟨0, by omega, rfl, Below.refl _ _⟩
            case round =>
              clear hlt
              obtain ⟨k, hk, rfl, hb⟩ := hrel
              by_cases hlt : k < n
              · have hka : k < a.length := by have := HN.out; omega
                have hko : k < out.length := by have := HOL.out; omega
                obtain ⟨bl, off, rfl, hbl, g0, g1, g2, g3, g4⟩ := adv_at (hr8.below hb) hka
                obtain ⟨bo, of2, rfl, hbo, o0, o1, o2, o3, o4⟩ := adv_at (hq9.below hb) hko
                obtain ⟨ad, u, rfl, hbl2, hx, s0⟩ := (hq8.below hb).at_ hlt
                have hsl : (shareL total (fitW a p)).length = n := by rw [shareL_length]; exact HWL.out
                have hks : k < (shareL total (fitW a p)).length := by omega
                obtain rfl := i64s_get hx hks
                have hok2 : out[k] = { a[k] with reps := (shareL total (fitW a p))[k] } := by
                  have e := HO.out
                  rw [sharesOf_ok HC.out.symm] at e
                  subst e
                  exact fitO_get _ hka hks
                rw [hok2] at o0 o1 o2 o3 o4
                generalize a[k] = x at *
                obtain ⟨x0, x1, x2, x3, x4⟩ := x
                generalize (shareL total (fitW a p))[k] = y at *
                simp only at g0 g1 g2 g3 g4 o0 o1 o2 o3 o4
                have hng := neq_adv_of (a := ⟨x0, x1, x2, y, x4⟩) (b := ⟨x0, x1, x2, y, x4⟩) false (by simp)
                simp only at hng
                have a5 : ∀ o, (wr.alloc o).cell? (ad.add k) = some (.int .i64 y) := fun o => (World.cell?_alloc_lt wr o _ (World.block_lt_of_cell? wr _ s0)).trans s0
                have hi2 : (k : Int) < (n : Int) := by omega
                have hbl3 : bl < wr.heap.size := by have := hb.size; omega
                clear hok2 hx hsl
                go_wp2
                go_quiet (fail)
                go_wp2
                go_roundw
                case rel => exact ⟨k + 1, by omega, by go_num, by repeat (first | exact hb | apply sub_drewN | apply sub_alloc)⟩
                case measure => simp [intOf]; omega
              · go_wp2
                go_ret
                exact ⟨rfl, sub_trans hb8 hb⟩
          · have h0' : (code != 0) = true := by simpa using h0
            have hou := HE.out h0
            subst hou
            clear h0
            go_wp2
            go_ret
            exact ⟨rfl, hb6⟩
    · have hne : ((n : Int) != (m : Int)) = true := by simp; omega
      go_enter Try.func4, Try.ntmps4
      go_wp2_with fail
      refine (awake51_any w).mono ?_
      rintro e1 w1 ⟨rfl, hb⟩
      go_wp2_with fail
      refine (fit_no total _ _ _ _ n m _ (by omega) (by omega) hnm).mono ?_
      rintro e2 w2 ⟨rfl, rfl⟩
      go_wp2
      go_ret
      exact ⟨rfl, hb⟩
end Go.Proofs.Ytkkhdjlloibiiaa
