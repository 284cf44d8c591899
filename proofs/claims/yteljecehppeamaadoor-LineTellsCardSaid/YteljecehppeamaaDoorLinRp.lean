/-
  The reference's Parse walked (chapter 41). Condition: few bytes.
-/
import Derived.Test.YteljecehppeamaaDoorLinRb
namespace Go.Fw
open Go.RowKit
set_option linter.unusedVariables false
theorem readC_ok {k : Nat} {l : List ByteArray} {x : Cl} (h : readC k l = some x) (hsz : ∀ y ∈ l, y.size ≤ 100000) : x.ok := by
  have g : ∀ {y : ByteArray} {n : Int}, readW y = some n → In64 n := fun h => ⟨(readW_some h).1, (readW_some h).2.1⟩
  have z6 : In6 0 0 0 0 0 0 := ⟨zero_in, zero_in, zero_in, zero_in, zero_in, zero_in⟩
  have e0 : ByteArray.empty.size ≤ 100000 := by decide
  have k1 : ∀ {n : Int}, 0 ≤ n ∧ n ≤ 9 → In64 n := fun h => ⟨by omega, by omega⟩
  unfold readC at h
  split at h
  · split at h
    · rename_i h1 h2
      injection h with h; subst h
      exact ⟨k1 (by simp), g h1, g h2, zero_in, z6, hsz _ (by simp)⟩
    · cases h
  · split at h
    · rename_i h1
      injection h with h; subst h
      exact ⟨k1 (by simp), g h1, zero_in, zero_in, z6, e0⟩
    · cases h
  · split at h
    · rename_i h1
      injection h with h; subst h
      exact ⟨k1 (by simp), zero_in, zero_in, g h1, z6, e0⟩
    · cases h
  · split at h
    · rename_i h1 h2 h3
      injection h with h; subst h
      exact ⟨k1 (by simp), g h2, g h3, g h1, z6, hsz _ (by simp)⟩
    · cases h
  · split at h
    · rename_i h1 h2 h3 h4 h5 h6
      injection h with h; subst h
      exact ⟨k1 (by simp), zero_in, zero_in, zero_in, ⟨g h1, g h2, g h3, g h4, g h5, g h6⟩, hsz _ (by simp)⟩
    · cases h
  · injection h with h; subst h
    exact ⟨k1 (by simp), zero_in, zero_in, zero_in, z6, hsz _ (by simp)⟩
  · injection h with h; subst h
    exact ⟨k1 (by simp), zero_in, zero_in, zero_in, z6, e0⟩
  · injection h with h; subst h
    exact ⟨k1 (by simp), zero_in, zero_in, zero_in, z6, e0⟩
  · cases h
end Go.Fw
namespace Go.Proofs.YteljecehppeamaaDoor
open Go.RowKit Go.Fw Go.Shelf
set_option maxHeartbeats 1000000
set_option maxRecDepth 100000
set_option linter.unusedVariables false
set_option linter.unusedSimpArgs false
theorem wd0_head (s : ByteArray) : headW (wordsB 32 s) = wdAt (wordsB 32 s) 0 := by
  unfold headW wdAt
  cases wordsB 32 s <;> rfl
theorem rparse_any (s : ByteArray) (w : World) (hs : s.size ≤ 1000) :
    Calls Tryd.prog 17 #[.string s] w fun y w' => y = .returned (.tuple #[(parseC s).1.val, .int .i64 (parseC s).2]) ∧ Below w.heap.size w w' := by
  have hwl := wordsB_len 32 s
  have hw0 : 0 < (wordsB 32 s).length := List.length_pos_iff.2 (wordsB_ne 32 s)
  have HWD := Lib.hid (fun W => words_any s W (by omega))
  have HSZ : Hid (∀ y ∈ wordsB 32 s, y.size ≤ 100000) := Lib.hid (fun y hy => by have := wordsB_sizes hy; omega)
  have HP0 : Hid (kindW (wdAt (wordsB 32 s) 0) = 0 → parseC s = (Cl.zero, 14)) := Lib.hid (fun h => parseC_none (by rw [wd0_head]; exact h))
  have HP1 : Hid (∀ k, kindW (wdAt (wordsB 32 s) 0) = k → k ≠ 0 → readC k (wordsB 32 s) = none → parseC s = (Cl.zero, 10)) := Lib.hid (fun k h h0 hn => parseC_form (by rw [wd0_head, h]; exact h0) (by rw [wd0_head, h]; exact hn))
  have HP2 : Hid (∀ k x, kindW (wdAt (wordsB 32 s) 0) = k → k ≠ 0 → readC k (wordsB 32 s) = some x → parseC s = toldC x s) := Lib.hid (fun k x h h0 hn => parseC_told (by rw [wd0_head, h]; exact h0) (by rw [wd0_head, h]; exact hn))
  generalize wordsB 32 s = all at *
  have HG := Lib.hid (And.intro (Blk.new_at w 35 Cl.zero.arr (g := w.heap.size) rfl) (sub_alloc (Below.refl _ w) (.cells Cl.zero.arr 35)))
  go_enter Tryd.func17, Tryd.ntmps17
  go_wp2_with fail
  refine (HWD.out _).mono ?_
  rintro y w1 ⟨v, rfl, hm⟩
  obtain ⟨A, c, rfl, hnc, hcm, hrd⟩ := hm.form
  have H1 : Hid (Reads w1 w1.heap.size 1 A all.length (strs all) ∧ Blk w1 w.heap.size 35 Cl.zero.arr ∧ Below w.heap.size w w1) := Lib.hid ⟨hrd, HG.out.1.later hm.below, sub_trans HG.out.2 hm.below⟩
  clear hm hrd HG
  go_wp2
  go_loopw [5, 6] (fun m i wr => ∃ (k q : Nat), 1 ≤ k ∧ k ≤ 9 ∧ i = .int .i64 k ∧ m = .int .i64 q ∧ Below w1.heap.size w1 wr ∧ Hid ((q = 0 ∧ ∀ j, 1 ≤ j → j < k → vbB j ≠ wdAt all 0) ∨ (1 ≤ q ∧ q < k ∧ vbB q = wdAt all 0))) (fun _ i _ => 9 - (intOf i).toNat)
  case atStart => exact ⟨1, 0, by omega, by omega, rfl, rfl, Below.refl _ _, Lib.hid (.inl ⟨rfl, fun j h1 h2 => by omega⟩)⟩
  case round =>
    obtain ⟨k, q, h1, h9, rfl, rfl, hb, HQ⟩ := hrel
    by_cases hlt : k ≤ 8
    · obtain ⟨ad, rfl, hadl, hc⟩ := reads_get (H1.out.1.up hb) hw0
      have HV := Lib.hid (fun W => rverb_any (k : Int) W)
      have HVE : Hid (vbB (k : Int).toNat = vbB k) := Lib.hid (by rw [Int.toNat_natCast])
      rw [HVE.out] at HV
      have HC : Hid (∀ W, Below wr.heap.size wr W → W.cell? (ad.add 0) = some (.string (wdAt all 0))) := Lib.hid (fun W hW => (hW.cell (p := ad.add 0) (by rw [block_of_add]; exact hadl)).trans hc)
      clear hc hadl
      go_wp2
      have hS : Below wr.heap.size wr wr.drew := (Below.refl _ _).drew
      refine any_start (S := fun W => Below wr.heap.size wr W) (by kernel_rfl) hS ?_
      generalize wr.drew = wd at *
      by_cases he : vbB k = wdAt all 0
      · have HEQ := Lib.hid he
        have HX : Hid (∀ b : ByteArray, (b.toList == b.toList) = true) := Lib.hid (fun b => by simp)
        rw [he] at HV
        clear he
        generalize hx0 : wdAt all 0 = x0 at *
        have HX0 := Lib.hid hx0
        clear hx0
        have hxx := HX.out x0
        simp only [List.length_cons, List.length_nil, Nat.reduceAdd, List.size_toArray]
        refine any_pure 0 (v := ?_) rfl (by kernel_rfl) (by intro _ _ _ h; exact h) (by assumption) (by rfl) (fun W hW => ?_) ?_
        rotate_left
        · first | (go_simp; done) | (go_simp; with_reducible rfl)
        try simp only [Act.put, List.setIfInBounds_toArray, List.set_cons_zero, List.set_cons_succ]
        refine any_pure 2 (v := ?_) rfl (by kernel_rfl) (by intro _ _ _ h; exact h) (by assumption) (by rfl) (fun W hW => ?_) ?_
        rotate_left
        · first | (go_simp; done) | (go_simp; with_reducible rfl)
        try simp only [Act.put, List.setIfInBounds_toArray, List.set_cons_zero, List.set_cons_succ]
        refine any_pure 3 (v := ?_) rfl (by kernel_rfl) (by intro _ _ _ h; exact h) (by assumption) (by rfl) (fun W hW => ?_) ?_
        rotate_left
        · first | (go_simp; done) | (go_simp; with_reducible rfl)
        try simp only [Act.put, List.setIfInBounds_toArray, List.set_cons_zero, List.set_cons_succ]
        refine any_pure 4 (v := ?_) rfl (by kernel_rfl) (by intro _ _ _ h; exact h) (by assumption) (by rfl) (fun W hW => ?_) ?_
        rotate_left
        · have c0 := HC.out W hW; have c1 : W.cell? ad = some (.string x0) := (by simpa [Addr.add] using c0); first | (go_simp; done) | (go_simp; with_reducible rfl)
        try simp only [Act.put, List.setIfInBounds_toArray, List.set_cons_zero, List.set_cons_succ]
        refine any_one 1 (by kernel_rfl) rfl (by rfl) (fun K hK => ?_)
        go_simp
        refine (HV.out _).mono ?_
        rintro y w2 ⟨rfl, hb2⟩
        have hS2 := sub_trans hS hb2
        refine hK _ _ hS2 ?_
        clear hK hb2
        try simp only [Act.put, List.setIfInBounds_toArray, List.set_cons_zero, List.set_cons_succ]
        refine any_pure 5 (v := ?_) rfl (by kernel_rfl) (by intro _ _ _ h; exact h) (by assumption) (by rfl) (fun W hW => ?_) ?_
        rotate_left
        · first | (go_simp; done) | (go_simp; with_reducible rfl)
        try simp only [Act.put, List.setIfInBounds_toArray, List.set_cons_zero, List.set_cons_succ]
        refine any_done (by kernel_rfl) ?_
        go_wp2
        go_roundw
        case rel => exact ⟨k + 1, k, by omega, by omega, by go_num, rfl, sub_trans hb hS2, Lib.hid (.inr ⟨h1, by omega, HEQ.out.trans HX0.out.symm⟩)⟩
        case measure => simp [intOf]; omega
      · have hss2 : ((vbB k).toList == (wdAt all 0).toList) = false := by simpa using str_ne he
        have HNE := Lib.hid he
        clear he
        generalize hvb : vbB k = V at *
        have HVB := Lib.hid hvb
        clear hvb
        generalize hx0 : wdAt all 0 = x0 at *
        have HX0 := Lib.hid hx0
        clear hx0
        simp only [List.length_cons, List.length_nil, Nat.reduceAdd, List.size_toArray]
        refine any_pure 0 (v := ?_) rfl (by kernel_rfl) (by intro _ _ _ h; exact h) (by assumption) (by rfl) (fun W hW => ?_) ?_
        rotate_left
        · first | (go_simp; done) | (go_simp; with_reducible rfl)
        try simp only [Act.put, List.setIfInBounds_toArray, List.set_cons_zero, List.set_cons_succ]
        refine any_pure 2 (v := ?_) rfl (by kernel_rfl) (by intro _ _ _ h; exact h) (by assumption) (by rfl) (fun W hW => ?_) ?_
        rotate_left
        · first | (go_simp; done) | (go_simp; with_reducible rfl)
        try simp only [Act.put, List.setIfInBounds_toArray, List.set_cons_zero, List.set_cons_succ]
        refine any_pure 3 (v := ?_) rfl (by kernel_rfl) (by intro _ _ _ h; exact h) (by assumption) (by rfl) (fun W hW => ?_) ?_
        rotate_left
        · first | (go_simp; done) | (go_simp; with_reducible rfl)
        try simp only [Act.put, List.setIfInBounds_toArray, List.set_cons_zero, List.set_cons_succ]
        refine any_pure 4 (v := ?_) rfl (by kernel_rfl) (by intro _ _ _ h; exact h) (by assumption) (by rfl) (fun W hW => ?_) ?_
        rotate_left
        · have c0 := HC.out W hW; have c1 : W.cell? ad = some (.string x0) := (by simpa [Addr.add] using c0); first | (go_simp; done) | (go_simp; with_reducible rfl)
        try simp only [Act.put, List.setIfInBounds_toArray, List.set_cons_zero, List.set_cons_succ]
        refine any_one 1 (by kernel_rfl) rfl (by rfl) (fun K hK => ?_)
        go_simp
        refine (HV.out _).mono ?_
        rintro y w2 ⟨rfl, hb2⟩
        have hS2 := sub_trans hS hb2
        refine hK _ _ hS2 ?_
        clear hK hb2
        try simp only [Act.put, List.setIfInBounds_toArray, List.set_cons_zero, List.set_cons_succ]
        refine any_pure 5 (v := ?_) rfl (by kernel_rfl) (by intro _ _ _ h; exact h) (by assumption) (by rfl) (fun W hW => ?_) ?_
        rotate_left
        · first | (go_simp; done) | (go_simp; with_reducible rfl)
        try simp only [Act.put, List.setIfInBounds_toArray, List.set_cons_zero, List.set_cons_succ]
        refine any_done (by kernel_rfl) ?_
        go_wp2
        go_roundw
        case rel =>
          refine ⟨k + 1, q, by omega, by omega, by go_num, rfl, sub_trans hb hS2, Lib.hid ?_⟩
          rcases HQ.out with ⟨hq, hj⟩ | ⟨hq1, hq2, hq3⟩
          · refine .inl ⟨hq, fun j hj1 hj2 => ?_⟩
            by_cases hjk : j = k
            · subst hjk
              rw [HVB.out, HX0.out]
              exact HNE.out
            · rw [HX0.out]
              exact hj j hj1 (by omega)
          · exact .inr ⟨hq1, by omega, hq3.trans HX0.out.symm⟩
        case measure => simp [intOf]; omega
    · have hkw : kindW (wdAt all 0) = q := by
        rcases HQ.out with ⟨hq, hj⟩ | ⟨hq1, hq2, hq3⟩
        · rw [hq]
          exact kindW_none fun j hj1 hj2 => hj j hj1 (by omega)
        · rw [← hq3]
          exact kindW_vb q hq1 (by omega)
      have hq8 : q ≤ 8 := by rcases HQ.out with ⟨hq, _⟩ | ⟨_, hq2, _⟩ <;> omega
      have HKW := Lib.hid hkw
      have hbb := sub_trans H1.out.2.2 hb
      have gz := H1.out.2.1.later hb
      by_cases hq0 : q = 0
      · subst hq0
        have HPE := Lib.hid (HP0.out HKW.out)
        clear hkw
        obtain ⟨d0, d1, d2, d3, d4, d5, d6, d7, d8, d9, d10⟩ := gz.c11
        have f0 := gz.frozen
        have z := gz.stCl Cl.zero
        have hz := below_stCl hbb (g := w.heap.size) (Nat.le_refl _) Cl.zero
        have HZ := Lib.hid (And.intro z hz)
        clear z hz gz hbb
        unfold stCl at HZ
        go_wp2
        obtain ⟨z0, z1, z2, z3, z4, z5, z6, z7, z8, z9, z10⟩ := HZ.out.1.c11
        simp only [Cl.zero] at z0 z1 z2 z3 z4 z5 z6 z7 z8 z9 z10
        exact bodyPost_ret (v := .tuple #[.agg #[.int .i64 0, .string ⟨#[]⟩, .int .i64 0, .int .i64 0, .int .i64 0, .int .i64 0, .int .i64 0, .int .i64 0, .int .i64 0, .int .i64 0, .int .i64 0], .int .i64 14]) (by simp [results, Tryd.results17, go_sem, z0, z1, z2, z3, z4, z5, z6, z7, z8, z9, z10]; try rfl) rfl ⟨by rw [HPE.out] <;> rfl, HZ.out.2⟩
      · have hqI : ((q : Int) == 0) = false := by rw [beq_eq_false_iff_ne]; omega
        have HRB := Lib.hid (rbare_words q (by omega) hq8 all all.length A c wr (H1.out.1.up hb) (by omega) hnc hcm HSZ.out)
        have HP1K := Lib.hid (HP1.out q HKW.out hq0)
        have HP2K := Lib.hid (fun x h => HP2.out q x HKW.out hq0 h)
        have HNM := Lib.hid (fun W => rnamed_any (q : Int) W)
        have HGZ := Lib.hid (And.intro gz hbb)
        clear hkw hq0 gz hbb HP0 HP1 HP2 HQ
        go_wp2_with fail
        refine HRB.out.mono ?_
        rintro y w2 ⟨x, rfl, hx, hb2⟩
        have HX := Lib.hid hx
        clear hx
        have gz3 := (HGZ.out.1.later hb2).alloc (.cells x.arr 35)
        have hbb3 := sub_alloc (sub_trans HGZ.out.2 hb2) (.cells x.arr 35)
        have gx3 := Blk.new_at w2 35 x.arr (g := w2.heap.size) rfl
        have HS3 := Lib.hid (And.intro gx3 (And.intro gz3 hbb3))
        clear gx3 gz3 hbb3 hb2
        simp only [Cl.val, Cl.arr]
        cases hr : readC q all with
        | none =>
          have HPE := Lib.hid (HP1K.out hr)
          have gz := HS3.out.2.1
          have hbb := HS3.out.2.2
          simp only [Cl.arr] at gz hbb
          have gz : Blk _ _ 35 Cl.zero.arr := gz
          clear hr HS3
          simp only [Option.isSome_none]
          obtain ⟨d0, d1, d2, d3, d4, d5, d6, d7, d8, d9, d10⟩ := gz.c11
          have f0 := gz.frozen
          have z := gz.stCl Cl.zero
          have hz := below_stCl hbb (g := w.heap.size) (Nat.le_refl _) Cl.zero
          have HZ := Lib.hid (And.intro z hz)
          clear z hz gz hbb
          unfold stCl at HZ
          go_wp2
          obtain ⟨z0, z1, z2, z3, z4, z5, z6, z7, z8, z9, z10⟩ := HZ.out.1.c11
          simp only [Cl.zero] at z0 z1 z2 z3 z4 z5 z6 z7 z8 z9 z10
          exact bodyPost_ret (v := .tuple #[.agg #[.int .i64 0, .string ⟨#[]⟩, .int .i64 0, .int .i64 0, .int .i64 0, .int .i64 0, .int .i64 0, .int .i64 0, .int .i64 0, .int .i64 0, .int .i64 0], .int .i64 10]) (by simp [results, Tryd.results17, go_sem, z0, z1, z2, z3, z4, z5, z6, z7, z8, z9, z10]; try rfl) rfl ⟨by rw [HPE.out] <;> rfl, HZ.out.2⟩
        | some x2 =>
          obtain rfl : x = x2 := HX.out x2 hr
          have HPE := Lib.hid (HP2K.out x hr)
          have HXK : Hid (x.k = (q : Int)) := Lib.hid (readC_id hr).1
          have hxo := readC_ok hr HSZ.out
          have HW := Lib.hid (fun W => rwith_any x W hxo)
          have HID := Lib.hid (fun W => id_any x.id hxo.idm W)
          clear hr hxo
          simp only [Option.isSome_some]
          obtain ⟨c0, c1, c2, c3, c4, c5, c6, c7, c8, c9, c10⟩ := HS3.out.1.c11
          simp only [Cl.arr] at c0 c1 c2 c3 c4 c5 c6 c7 c8 c9 c10
          go_wp2_with fail
          refine (HW.out _).mono ?_
          rintro y w4 ⟨rfl, hb4⟩
          have HS4 : Hid (Blk w4 w2.heap.size 35 x.arr ∧ Blk w4 w.heap.size 35 Cl.zero.arr ∧ Below w.heap.size w w4) := Lib.hid ⟨HS3.out.1.later hb4, HS3.out.2.1.later hb4, sub_trans HS3.out.2.2 hb4⟩
          clear hb4 HS3 c0 c1 c2 c3 c4 c5 c6 c7 c8 c9 c10
          by_cases hl : lineB x = s
          case neg =>
            have hss2 : ((lineB x).toList == s.toList) = false := by simpa using str_ne hl
            have HPF : Hid (parseC s = (Cl.zero, 10)) := Lib.hid (HPE.out.trans (toldC_form hl))
            have gz := HS4.out.2.1
            have hbb := HS4.out.2.2
            clear hl
            generalize lineB x = lx at *
            obtain ⟨d0, d1, d2, d3, d4, d5, d6, d7, d8, d9, d10⟩ := gz.c11
            have f0 := gz.frozen
            have z := gz.stCl Cl.zero
            have hz := below_stCl hbb (g := w.heap.size) (Nat.le_refl _) Cl.zero
            have HZ := Lib.hid (And.intro z hz)
            clear z hz gz hbb
            unfold stCl at HZ
            go_wp2
            obtain ⟨z0, z1, z2, z3, z4, z5, z6, z7, z8, z9, z10⟩ := HZ.out.1.c11
            simp only [Cl.zero] at z0 z1 z2 z3 z4 z5 z6 z7 z8 z9 z10
            exact bodyPost_ret (v := .tuple #[.agg #[.int .i64 0, .string ⟨#[]⟩, .int .i64 0, .int .i64 0, .int .i64 0, .int .i64 0, .int .i64 0, .int .i64 0, .int .i64 0, .int .i64 0, .int .i64 0], .int .i64 10]) (by simp [results, Tryd.results17, go_sem, z0, z1, z2, z3, z4, z5, z6, z7, z8, z9, z10]; try rfl) rfl ⟨by rw [HPF.out] <;> rfl, HZ.out.2⟩
          have hss2 : (s.toList == s.toList) = true := by simp
          have HTC : Hid (parseC s = toldC x s) := HPE
          have HTL := Lib.hid hl
          rw [hl]
          clear hl
          have c1 := HS4.out.1.cell 1
          simp only [Cl.arr, List.getElem?_toArray, List.getElem?_cons_succ, List.getElem?_cons_zero] at c1
          cases hnm : namedK (q : Int) with
          | false =>
            rw [hnm] at HNM
            have HPF : Hid (parseC s = (x, 0)) := Lib.hid (HTC.out.trans (by
              unfold toldC
              rw [if_pos HTL.out, if_neg]
              rw [HXK.out, hnm]
              rintro ⟨h, _⟩
              cases h))
            clear hnm
            go_wp2_with fail
            refine (HNM.out _).mono ?_
            rintro y w5 ⟨rfl, rfl⟩
            obtain ⟨c0, c1, c2, c3, c4, c5, c6, c7, c8, c9, c10⟩ := HS4.out.1.c11
            have gz := HS4.out.2.1
            have hbb := HS4.out.2.2
            obtain ⟨d0, d1, d2, d3, d4, d5, d6, d7, d8, d9, d10⟩ := gz.c11
            have f0 := gz.frozen
            have z := gz.stCl x
            have hz := below_stCl hbb (g := w.heap.size) (Nat.le_refl _) x
            have HZ := Lib.hid (And.intro z hz)
            clear z hz gz hbb
            unfold stCl at HZ
            go_wp2
            obtain ⟨z0, z1, z2, z3, z4, z5, z6, z7, z8, z9, z10⟩ := HZ.out.1.c11
            exact bodyPost_ret (v := .tuple #[.agg #[.int .i64 x.k, .string x.id, .int .i64 x.tick, .int .i64 x.value, .int .i64 x.handle, .int .i64 x.a, .int .i64 x.b, .int .i64 x.c, .int .i64 x.d, .int .i64 x.e, .int .i64 x.f], .int .i64 0]) (by simp [results, Tryd.results17, go_sem, z0, z1, z2, z3, z4, z5, z6, z7, z8, z9, z10]; try rfl) rfl ⟨by rw [HPF.out] <;> rfl, HZ.out.2⟩
          | true =>
            rw [hnm] at HNM
            cases hid : idOk x.id with
            | false =>
              rw [hid] at HID
              have HPF : Hid (parseC s = (Cl.zero, 2)) := Lib.hid (HTC.out.trans (toldC_id HTL.out (by rw [HXK.out]; exact hnm) hid))
              clear hnm hid
              go_wp2_with fail
              refine (HNM.out _).mono ?_
              rintro y w5 ⟨rfl, rfl⟩
              go_wp2_with fail
              refine (HID.out _).mono ?_
              rintro y w6 ⟨rfl, rfl⟩
              have gz := HS4.out.2.1
              have hbb := HS4.out.2.2
              obtain ⟨d0, d1, d2, d3, d4, d5, d6, d7, d8, d9, d10⟩ := gz.c11
              have f0 := gz.frozen
              have z := gz.stCl Cl.zero
              have hz := below_stCl hbb (g := w.heap.size) (Nat.le_refl _) Cl.zero
              have HZ := Lib.hid (And.intro z hz)
              clear z hz gz hbb
              unfold stCl at HZ
              go_wp2
              obtain ⟨z0, z1, z2, z3, z4, z5, z6, z7, z8, z9, z10⟩ := HZ.out.1.c11
              simp only [Cl.zero] at z0 z1 z2 z3 z4 z5 z6 z7 z8 z9 z10
              exact bodyPost_ret (v := .tuple #[.agg #[.int .i64 0, .string ⟨#[]⟩, .int .i64 0, .int .i64 0, .int .i64 0, .int .i64 0, .int .i64 0, .int .i64 0, .int .i64 0, .int .i64 0, .int .i64 0], .int .i64 2]) (by simp [results, Tryd.results17, go_sem, z0, z1, z2, z3, z4, z5, z6, z7, z8, z9, z10]; try rfl) rfl ⟨by rw [HPF.out] <;> rfl, HZ.out.2⟩
            | true =>
              rw [hid] at HID
              have HPF : Hid (parseC s = (x, 0)) := Lib.hid (HTC.out.trans (by
                unfold toldC
                rw [if_pos HTL.out, if_neg]
                rw [hid]
                rintro ⟨_, h⟩
                cases h))
              clear hnm hid
              go_wp2_with fail
              refine (HNM.out _).mono ?_
              rintro y w5 ⟨rfl, rfl⟩
              go_wp2_with fail
              refine (HID.out _).mono ?_
              rintro y w6 ⟨rfl, rfl⟩
              obtain ⟨c0, c1, c2, c3, c4, c5, c6, c7, c8, c9, c10⟩ := HS4.out.1.c11
              have gz := HS4.out.2.1
              have hbb := HS4.out.2.2
              obtain ⟨d0, d1, d2, d3, d4, d5, d6, d7, d8, d9, d10⟩ := gz.c11
              have f0 := gz.frozen
              have z := gz.stCl x
              have hz := below_stCl hbb (g := w.heap.size) (Nat.le_refl _) x
              have HZ := Lib.hid (And.intro z hz)
              clear z hz gz hbb
              unfold stCl at HZ
              go_wp2
              obtain ⟨z0, z1, z2, z3, z4, z5, z6, z7, z8, z9, z10⟩ := HZ.out.1.c11
              exact bodyPost_ret (v := .tuple #[.agg #[.int .i64 x.k, .string x.id, .int .i64 x.tick, .int .i64 x.value, .int .i64 x.handle, .int .i64 x.a, .int .i64 x.b, .int .i64 x.c, .int .i64 x.d, .int .i64 x.e, .int .i64 x.f], .int .i64 0]) (by simp [results, Tryd.results17, go_sem, z0, z1, z2, z3, z4, z5, z6, z7, z8, z9, z10]; try rfl) rfl ⟨by rw [HPF.out] <;> rfl, HZ.out.2⟩
end Go.Proofs.YteljecehppeamaaDoor
