/-
  5 texts of this claim, joined; each says itself what it proves. Condition: as each text says.
-/
import Derived.Test.YteljecehppeamaaGreatDoorJ22
import Derived.Test.YteljecehppeamaaGreatDoorJ13
import Derived.Test.YteljecehppeamaaGreatDoorJ04
import Derived.Test.YteljecehppeamaaGreatDoorChecked
import Derived.Test.YteljecehppeamaaGreatDoorRows
import Derived.Stop.LaidErr
import Derived.LaidMore
import Derived.MakeChecks
import Derived.PinnedBridge
import Derived.Test.YteljecehppeamaaGreatDoorJ16
import Derived.Stop.Joined
import Derived.SevenTiedAt
/-
  ScriptTells and ScriptLong walked (chapter 42). Conditions: strconv's table and errors lie in memory, a number in internal/bytealg.MaxLen.
-/
namespace Go.Proofs.YteljecehppeamaaGreatDoor
open Go.RowKit Go.Fw Go.Shelf
set_option maxHeartbeats 2000000
set_option maxRecDepth 100000
set_option linter.unusedVariables false
set_option linter.unusedSimpArgs false
theorem scA_n : scA.ps.length = 1 := rfl
theorem parse_short (w : World) (hR : Ready w) : Calls Tryz.prog 11 #[.string scA.raw] w fun e w' => ∃ A A2 c c2, e = .returned (.tuple #[.agg #[.int .i64 1, .int .i64 4, .int .i64 4, .int .i64 4, .slice A 1 c, .int .i64 0, .slice A2 0 c2], .int .i64 0, .int .i64 0]) ∧ ScAt w' A A2 1 c 0 c2 scA ∧ Below w.heap.size w w' := by
  obtain ⟨h1, h2⟩ := raw_run scA_ok scA_E
  rw [scA_bare] at h2
  exact sparse_run scA.raw _ scA _ h1 h2 (by decide) (by have e : scA.raw.data.toList.length = scA.raw.size := rfl; rw [← e]; unfold Sc.raw; rw [scA_raw]; decide) scA_E scA_ok (by decide) w hR
theorem text_short (A A2 : Option Addr) (c c2 : Nat) (w : World) (hA : ScAt w A A2 1 c 0 c2 scA) (hT : Tabs Tryz.prog w) : Calls Tryz.prog 7 #[.agg #[.int .i64 1, .int .i64 4, .int .i64 4, .int .i64 4, .slice A 1 c, .int .i64 0, .slice A2 0 c2]] w fun e w' => e = .returned (.tuple #[.string scA.raw, .int .i64 0]) ∧ Below w.heap.size w w' := by
  have h := sctext_any scA A A2 1 c 0 c2 w hA scA_ok hT (fun _ => ⟨by rw [scA_raw]; decide, fun p hp x hx => by
    have h1 : p = [clA] := by simpa [scA] using hp
    subst h1
    have h2 : x = clA := by simpa using hx
    subst h2
    have := lineN_len clA_ok clA_E
    omega⟩) (by decide)
  have e : scText scA = (scA.raw, 0) := by
    unfold scText
    rw [if_neg (by rw [scA_E]; simp), if_neg (by rw [scA_raw]; decide)]
  unfold ScText at h
  rw [e] at h
  exact h
theorem sca_any (w : World) (hR : Ready w) : Calls Tryz.prog 5 #[] w fun x w' => x = .returned (.bool true) ∧ Below w.heap.size w w' := by
  have HR := Lib.hid hR
  have HSH := Lib.hid short_any
  have HPS := Lib.hid parse_short
  have HTS := Lib.hid text_short
  have heq : (scA.raw.toList == scA.raw.toList) = true := by simp
  clear hR
  generalize scA.raw = sr at *
  go_enter Tryz.func5, Tryz.ntmps5
  go_wp2_with fail
  refine (HSH.out _).mono ?_
  rintro e w1 ⟨rfl, rfl⟩
  go_wp2_with fail
  refine (HPS.out _ HR.out).mono ?_
  rintro e w2 ⟨A, A2, c, c2, rfl, hA, hb2⟩
  have HA := Lib.hid (hA.up (sub_alloc (Below.refl _ _) (.cells #[.int .i64 1, .int .i64 4, .int .i64 4, .int .i64 4, .slice A 1 c, .int .i64 0, .slice A2 0 c2] 33)))
  have HG := Lib.hid (Blk.new_at w2 33 #[.int .i64 1, .int .i64 4, .int .i64 4, .int .i64 4, .slice A 1 c, .int .i64 0, .slice A2 0 c2] (g := w2.heap.size) rfl)
  have HB := Lib.hid (sub_alloc hb2 (.cells #[.int .i64 1, .int .i64 4, .int .i64 4, .int .i64 4, .slice A 1 c, .int .i64 0, .slice A2 0 c2] 33))
  clear hA hb2
  go_wp2_with fail
  refine (HTS.out A A2 c c2 _ HA.out (HR.out.up HB.out).tabs).mono ?_
  rintro e w3 ⟨rfl, hb3⟩
  have HB3 := Lib.hid (sub_trans HB.out hb3)
  have HG3 := Lib.hid (HG.out.later hb3)
  clear hb3 HA HB HG
  go_wp2_with fail
  refine (sparse_empty _ (HR.out.up HB3.out).max).mono ?_
  rintro e w4 ⟨rfl, hb4⟩
  have HG4 := Lib.hid ((HG3.out.later hb4).alloc (.cells zero7 33))
  have HB4 := Lib.hid (sub_alloc (sub_trans HB3.out hb4) (.cells zero7 33))
  unfold zero7 at *
  clear hb4 HG3 HB3
  have c1 := HG4.out.cell 4
  simp only [List.getElem?_toArray, List.getElem?_cons_succ, List.getElem?_cons_zero] at c1
  go_wp2_with fail
  refine (HSH.out _).mono ?_
  rintro e w5 ⟨rfl, rfl⟩
  go_wp2
  go_ret
  exact ⟨rfl, HB4.out⟩
/-- a script that came in -/
structure ScIn (s : Sc) : Prop where
  cfg : In64 s.st ∧ In64 s.sa ∧ In64 s.lo ∧ In64 s.hi
  ps : ∀ p ∈ s.ps, ∀ x ∈ p, x.id.size ≤ maxLen ∧ (x.id.size ≤ 40 → x.ok)
  wk : In64 s.wk
  pk : ∀ x ∈ s.pk, In64 x
theorem ScIn.ok {s : Sc} (h : ScIn s) (hs : s.small) : s.ok := ⟨h.cfg, fun p hp x hx => ⟨(h.ps p hp x hx).2 ((hs.ps p hp).2 x hx), (hs.ps p hp).2 x hx⟩, h.wk, h.pk⟩
theorem lines_size {s : Sc} (h : (rawN s.lines).length ≤ 16384) : s.raw.size ≤ 16384 := by
  have e : s.raw.data.toList = rawN s.lines := by simp [Sc.raw]
  have e2 : s.raw.data.toList.length = s.raw.size := rfl
  rw [← e2, e]
  exact h
theorem scriptTells_walk (s : Sc) (A A2 : Option Addr) (n c n2 c2 : Nat) (w : World) (hR : Ready w) (hP : PrgAt w A n s.ps) (hn : n ≤ maxLen) (hK : Reads w w.heap.size 1 A2 n2 (i64s s.pk)) (hm2 : n2 ≤ maxLen) (hin : ScIn s) :
    Calls Tryz.prog 3 #[.agg (scArr s A A2 n c n2 c2)] w fun x w' => x = .returned (.bool true) ∧ Below w.heap.size w w' := by
  have HB := Lib.hid (sub_alloc (Below.refl _ w) (.cells (scArr s A A2 n c n2 c2) 27))
  have HG := Lib.hid (Blk.new_at w 27 (scArr s A A2 n c n2 c2) (g := w.heap.size) rfl)
  have hn2 : n2 = s.pk.length := by have := hK.len; simp [i64s] at this; exact this
  have HF := Lib.hid (fun W (hW : Below w.heap.size w W) => few_any s A A2 n c n2 c2 W (hP.up hW) hn hn2 hm2 (fun p hp x hx => (hin.ps p hp x hx).1))
  have HA := Lib.hid (fun (hs : s.small) W (hW : Below w.heap.size w W) => (⟨hP.up hW, hK.up hW, by have := hs.n; have := hP.len; omega, by have := hs.pk; omega⟩ : ScAt W A A2 n c n2 c2 s))
  have HIN := Lib.hid hin
  have HR := Lib.hid hR
  have HPL := Lib.hid hP.len
  have HPL2 := Lib.hid hn2
  have HAW := Lib.hid sca_any
  clear hR hP hn hK hm2 hin hn2
  unfold scArr at HB HG HF
  unfold scArr
  go_enter Tryz.func3, Tryz.ntmps3
  go_wp2_with fail
  refine (HAW.out _ (HR.out.up HB.out)).mono ?_
  rintro y w1 ⟨rfl, hb1⟩
  have HB1 := Lib.hid (sub_trans HB.out hb1)
  have HG1 := Lib.hid (HG.out.later hb1)
  clear hb1 HB HG HAW
  have c0 := HG1.out.cell 0
  have c1 := HG1.out.cell 1
  have c2' := HG1.out.cell 2
  have c3 := HG1.out.cell 3
  have c4 := HG1.out.cell 4
  have c5 := HG1.out.cell 5
  have c6 := HG1.out.cell 6
  simp only [List.getElem?_toArray, List.getElem?_cons_succ, List.getElem?_cons_zero] at c0 c1 c2' c3 c4 c5 c6
  go_wp2_with fail
  refine (HF.out _ HB1.out).mono ?_
  rintro y w2 ⟨⟨b, rfl, hsm⟩, hb2⟩
  have HB2 := Lib.hid (sub_trans HB1.out hb2)
  have HG2 := Lib.hid (HG1.out.later hb2)
  clear hb2 HB1 HG1 HF c0 c1 c2' c3 c4 c5 c6
  cases b with
  | false =>
    clear hsm
    go_wp2
    go_ret
    exact ⟨rfl, HB2.out⟩
  | true =>
    have hs := hsm rfl
    have hok := HIN.out.ok hs
    have HOK := Lib.hid hok
    have HRW := Lib.hid (fun hE => small_raw hs hok hE)
    have htx : (textN s.pk).length ≤ 90000 := by have h1 := textN_len (l := s.pk) hok.pk; have := hs.pk; omega
    have HT1 := Lib.hid (fun W (hW : Below w.heap.size w W) => sctext_any s A A2 n c n2 c2 W (HA.out hs W hW) hok (HR.out.up hW).tabs (fun hE => ⟨(small_raw hs hok hE).1, fun p hp x hx => by have := (small_raw hs hok hE).2.1 p hp x hx; omega⟩) htx)
    have HT2 := Lib.hid (fun W (hW : Below w.heap.size w W) => rsctext_any s A A2 n c n2 c2 W (HA.out hs W hW) hok (HR.out.up hW).tabs.pow (fun hE => ⟨(small_raw hs hok hE).1, fun p hp x hx => by have := (small_raw hs hok hE).2.1 p hp x hx; omega⟩) htx)
    have HC1 := Lib.hid (fun W (hW : Below w.heap.size w W) => sccheck_any s.st s.sa s.lo s.hi s.ps A A2 n c n2 c2 s.wk W (HA.out hs W hW).ps (HA.out hs W hW).nle hok.wk (fun p hp x hx => (hok.ps p hp x hx).1) (HR.out.up hW).tabs.pow)
    have HC2 := Lib.hid (fun W (hW : Below w.heap.size w W) => rsccheck_any s.st s.sa s.lo s.hi s.ps A A2 n c n2 c2 s.wk W (HA.out hs W hW).ps (HA.out hs W hW).nle hok.wk (fun p hp x hx => (hok.ps p hp x hx).1) (HR.out.up hW).tabs.pow)
    have HBR : Hid (∀ W, Below w.heap.size w W → Calls Tryz.prog 13 #[.agg #[.int .i64 s.st, .int .i64 s.sa, .int .i64 s.lo, .int .i64 s.hi, .slice A n c, .int .i64 s.wk, .slice A2 n2 c2]] W fun x w' => ∃ A' c', x = .returned (.agg #[.int .i64 s.st, .int .i64 s.sa, .int .i64 s.lo, .int .i64 s.hi, .slice A' n c', .int .i64 s.wk, .slice A2 n2 c2]) ∧ ScAt w' A' A2 n c' n2 c2 s.bare ∧ Below W.heap.size W w') := Lib.hid (fun W (hW : Below w.heap.size w W) => rscbare_any s A A2 n c n2 c2 W (HA.out hs W hW) (fun p hp => by have := (hs.ps p hp).1; omega))
    have HPS : Hid (∀ W, Below w.heap.size w W → (scText s).2 = 0 → Calls Tryz.prog 11 #[.string (scText s).1] W fun e w' => ∃ B B2 d d2, e = .returned (.tuple #[.agg #[.int .i64 s.st, .int .i64 s.sa, .int .i64 s.lo, .int .i64 s.hi, .slice B n d, .int .i64 s.wk, .slice B2 n2 d2], .int .i64 0, .int .i64 0]) ∧ ScAt w' B B2 n d n2 d2 s.bare ∧ Below W.heap.size W w') := Lib.hid (fun W hW h0 => by
      have hE : scE s.st s.sa s.lo s.hi s.ps s.wk = 0 := by
        unfold scText at h0
        split at h0
        · rename_i hne; exact absurd h0 hne
        · rename_i hne; exact Classical.byContradiction hne
      have hS : (rawN s.lines).length ≤ 16384 ∧ scText s = (s.raw, 0) := by
        unfold scText at h0 ⊢
        rw [if_neg (by rw [hE]; simp)] at h0 ⊢
        split at h0
        · cases h0
        · rename_i hne; exact ⟨by omega, by rw [if_neg hne]⟩
      rw [hS.2]
      obtain ⟨h1, h2⟩ := raw_run hok hE
      have h3 := sparse_run s.raw _ s.bare _ h1 h2 (by split <;> omega) (lines_size hS.1) (scE_bare hE) (bare_ok hok hE) (by have := hs.pk; show s.pk.length ≤ 100000; omega) W (HR.out.up hW)
      have e1 : s.bare.ps.length = n := by show (s.ps.map _).length = n; rw [List.length_map]; exact HPL.out.symm
      have e2 : s.bare.pk.length = n2 := HPL2.out.symm
      rw [e1, e2] at h3
      exact h3)
    have HSM : Hid (∀ W B B2 d d2 A' c', ScAt W B B2 n d n2 d2 s.bare → ScAt W A' A2 n c' n2 c2 s.bare → (scText s).2 = 0 → Calls Tryz.prog 12 #[.agg #[.int .i64 s.st, .int .i64 s.sa, .int .i64 s.lo, .int .i64 s.hi, .slice B n d, .int .i64 s.wk, .slice B2 n2 d2], .agg #[.int .i64 s.st, .int .i64 s.sa, .int .i64 s.lo, .int .i64 s.hi, .slice A' n c', .int .i64 s.wk, .slice A2 n2 c2]] W fun x w' => x = .returned (.bool true) ∧ Below W.heap.size W w') := Lib.hid (fun W B B2 d d2 A' c' h1 h2 h0 => by
      have hE : scE s.st s.sa s.lo s.hi s.ps s.wk = 0 := by
        unfold scText at h0
        split at h0
        · rename_i hne; exact absurd h0 hne
        · rename_i hne; exact Classical.byContradiction hne
      exact rscsame_any s.bare B B2 A' A2 n d n2 d2 c' c2 W h1 h2 (bare_ok hok hE))
    clear hsm hs hok htx HRW HIN HA HPL HPL2
    unfold ScText at HT1 HT2
    unfold scArr at HT1 HT2
    have c0 := HG2.out.cell 0
    have c1 := HG2.out.cell 1
    have c2' := HG2.out.cell 2
    have c3 := HG2.out.cell 3
    have c4 := HG2.out.cell 4
    have c5 := HG2.out.cell 5
    have c6 := HG2.out.cell 6
    simp only [List.getElem?_toArray, List.getElem?_cons_succ, List.getElem?_cons_zero] at c0 c1 c2' c3 c4 c5 c6
    generalize hte : (scText s).2 = te at *
    generalize (scText s).1 = tt at *
    clear hte
    generalize scE s.st s.sa s.lo s.hi s.ps s.wk = ce at *
    go_wp2_with fail
    refine (HT1.out _ HB2.out).mono ?_
    rintro y w3 ⟨rfl, hb3⟩
    have HB3 := Lib.hid (sub_trans HB2.out hb3)
    have HG3 := Lib.hid (HG2.out.later hb3)
    clear hb3 HB2 HG2 HT1 c0 c1 c2' c3 c4 c5 c6
    have c0 := HG3.out.cell 0
    have c1 := HG3.out.cell 1
    have c2' := HG3.out.cell 2
    have c3 := HG3.out.cell 3
    have c4 := HG3.out.cell 4
    have c5 := HG3.out.cell 5
    have c6 := HG3.out.cell 6
    simp only [List.getElem?_toArray, List.getElem?_cons_succ, List.getElem?_cons_zero] at c0 c1 c2' c3 c4 c5 c6
    go_wp2_with fail
    refine (HT2.out _ HB3.out).mono ?_
    rintro y w4 ⟨rfl, hb4⟩
    have HB4 := Lib.hid (sub_trans HB3.out hb4)
    have HG4 := Lib.hid (HG3.out.later hb4)
    clear hb4 HB3 HG3 HT2 c0 c1 c2' c3 c4 c5 c6
    have hss : (tt.toList == tt.toList) = true := by simp
    have hsn : (tt.toList != tt.toList) = false := by simp
    go_wp2
    have hS : Below w4.heap.size w4 w4.drew := (Below.refl _ _).drew
    refine any_start (S := fun W => Below w4.heap.size w4 W) (by kernel_rfl) hS ?_
    generalize w4.drew = wd at *
    simp only [List.length_cons, List.length_nil, Nat.reduceAdd, List.size_toArray]
    refine any_pure 0 (v := ?_) rfl (by kernel_rfl) (by intro _ _ _ h; exact h) (by assumption) (by rfl) (fun W hW => ?_) ?_
    rotate_left
    · first | (go_simp; done) | (go_simp; with_reducible rfl)
    try simp only [Act.put, List.setIfInBounds_toArray, List.set_cons_zero, List.set_cons_succ]
    refine any_pure 1 (v := ?_) rfl (by kernel_rfl) (by intro _ _ _ h; exact h) (by assumption) (by rfl) (fun W hW => ?_) ?_
    rotate_left
    · first | (go_simp; done) | (go_simp; with_reducible rfl)
    try simp only [Act.put, List.setIfInBounds_toArray, List.set_cons_zero, List.set_cons_succ]
    refine any_pure 2 (v := ?_) rfl (by kernel_rfl) (by intro _ _ _ h; exact h) (by assumption) (by rfl) (fun W hW => ?_) ?_
    rotate_left
    · first | (go_simp; done) | (go_simp; with_reducible rfl)
    try simp only [Act.put, List.setIfInBounds_toArray, List.set_cons_zero, List.set_cons_succ]
    refine any_pure 3 (v := ?_) rfl (by kernel_rfl) (by intro _ _ _ h; exact h) (by assumption) (by rfl) (fun W hW => ?_) ?_
    rotate_left
    · first | (go_simp; done) | (go_simp; with_reducible rfl)
    try simp only [Act.put, List.setIfInBounds_toArray, List.set_cons_zero, List.set_cons_succ]
    refine any_pure 4 (v := ?_) rfl (by kernel_rfl) (by intro _ _ _ h; exact h) (by assumption) (by rfl) (fun W hW => ?_) ?_
    rotate_left
    · first | (go_simp; done) | (go_simp; with_reducible rfl)
    try simp only [Act.put, List.setIfInBounds_toArray, List.set_cons_zero, List.set_cons_succ]
    refine any_pure 5 (v := ?_) rfl (by kernel_rfl) (by intro _ _ _ h; exact h) (by assumption) (by rfl) (fun W hW => ?_) ?_
    rotate_left
    · first | (go_simp; done) | (go_simp; with_reducible rfl)
    try simp only [Act.put, List.setIfInBounds_toArray, List.set_cons_zero, List.set_cons_succ]
    refine any_pure 6 (v := ?_) rfl (by kernel_rfl) (by intro _ _ _ h; exact h) (by assumption) (by rfl) (fun W hW => ?_) ?_
    rotate_left
    · first | (go_simp; done) | (go_simp; with_reducible rfl)
    try simp only [Act.put, List.setIfInBounds_toArray, List.set_cons_zero, List.set_cons_succ]
    refine any_pure 7 (v := ?_) rfl (by kernel_rfl) (by intro _ _ _ h; exact h) (by assumption) (by rfl) (fun W hW => ?_) ?_
    rotate_left
    · first | (go_simp; done) | (go_simp; with_reducible rfl)
    try simp only [Act.put, List.setIfInBounds_toArray, List.set_cons_zero, List.set_cons_succ]
    refine any_pure 8 (v := ?_) rfl (by kernel_rfl) (by intro _ _ _ h; exact h) (by assumption) (by rfl) (fun W hW => ?_) ?_
    rotate_left
    · first | (go_simp; done) | (go_simp; with_reducible rfl)
    try simp only [Act.put, List.setIfInBounds_toArray, List.set_cons_zero, List.set_cons_succ]
    refine any_pure 9 (v := ?_) rfl (by kernel_rfl) (by intro _ _ _ h; exact h) (by assumption) (by rfl) (fun W hW => ?_) ?_
    rotate_left
    · have g := HG4.out.later hW; have c0 := g.cell 0; have c1 := g.cell 1; have c2' := g.cell 2; have c3 := g.cell 3; have c4 := g.cell 4; have c5 := g.cell 5; have c6 := g.cell 6; simp only [List.getElem?_toArray, List.getElem?_cons_succ, List.getElem?_cons_zero] at c0 c1 c2' c3 c4 c5 c6; first | (go_simp; done) | (go_simp; with_reducible rfl)
    try simp only [Act.put, List.setIfInBounds_toArray, List.set_cons_zero, List.set_cons_succ]
    refine any_pure 11 (v := ?_) rfl (by kernel_rfl) (by intro _ _ _ h; exact h) (by assumption) (by rfl) (fun W hW => ?_) ?_
    rotate_left
    · have g := HG4.out.later hW; have c0 := g.cell 0; have c1 := g.cell 1; have c2' := g.cell 2; have c3 := g.cell 3; have c4 := g.cell 4; have c5 := g.cell 5; have c6 := g.cell 6; simp only [List.getElem?_toArray, List.getElem?_cons_succ, List.getElem?_cons_zero] at c0 c1 c2' c3 c4 c5 c6; first | (go_simp; done) | (go_simp; with_reducible rfl)
    try simp only [Act.put, List.setIfInBounds_toArray, List.set_cons_zero, List.set_cons_succ]
    refine any_one 10 (by kernel_rfl) rfl (by rfl) (fun K hK => ?_)
    go_simp
    refine (HC1.out _ (sub_trans HB4.out hS)).mono ?_
    rintro y v4 ⟨rfl, hb⟩
    replace hS := sub_trans hS hb
    refine hK _ _ hS ?_
    clear hK hb
    try simp only [Act.put, List.setIfInBounds_toArray, List.set_cons_zero, List.set_cons_succ]
    refine any_one 12 (by kernel_rfl) rfl (by rfl) (fun K hK => ?_)
    go_simp
    refine (HC2.out _ (sub_trans HB4.out hS)).mono ?_
    rintro y v5 ⟨rfl, hb⟩
    replace hS := sub_trans hS hb
    refine hK _ _ hS ?_
    clear hK hb
    try simp only [Act.put, List.setIfInBounds_toArray, List.set_cons_zero, List.set_cons_succ]
    refine any_pure 13 (v := ?_) rfl (by kernel_rfl) (by intro _ _ _ h; exact h) (by assumption) (by rfl) (fun W hW => ?_) ?_
    rotate_left
    · first | (go_simp; done) | (go_simp; with_reducible rfl)
    try simp only [Act.put, List.setIfInBounds_toArray, List.set_cons_zero, List.set_cons_succ]
    refine any_pure 14 (v := ?_) rfl (by kernel_rfl) (by intro _ _ _ h; exact h) (by assumption) (by rfl) (fun W hW => ?_) ?_
    rotate_left
    · first | (go_simp; done) | (go_simp; with_reducible rfl)
    try simp only [Act.put, List.setIfInBounds_toArray, List.set_cons_zero, List.set_cons_succ]
    refine any_done (by kernel_rfl) ?_
    have HB5 := Lib.hid (sub_trans HB4.out hS)
    have HG5 := Lib.hid (HG4.out.later hS)
    clear hS HB4 HG4 HC1 HC2 hss hsn
    by_cases hte : te = 0
    case neg =>
      have e1 : (te == 0) = false := by simpa using hte
      have e2 : (te != 0) = true := by simpa using hte
      clear hte
      go_wp2
      go_ret
      exact ⟨rfl, HB5.out⟩
    subst hte
    go_wp2_with fail
    refine (HPS.out _ HB5.out trivial).mono ?_
    rintro y w6 ⟨B, B2, d, d2, rfl, hBt, hb6⟩
    have HG6 := Lib.hid ((HG5.out.later hb6).alloc (.cells #[.int .i64 s.st, .int .i64 s.sa, .int .i64 s.lo, .int .i64 s.hi, .slice B n d, .int .i64 s.wk, .slice B2 n2 d2] 33))
    have HB6 := Lib.hid (sub_alloc (sub_trans HB5.out hb6) (.cells #[.int .i64 s.st, .int .i64 s.sa, .int .i64 s.lo, .int .i64 s.hi, .slice B n d, .int .i64 s.wk, .slice B2 n2 d2] 33))
    have HX6 := Lib.hid (hBt.up (sub_alloc (Below.refl _ _) (.cells #[.int .i64 s.st, .int .i64 s.sa, .int .i64 s.lo, .int .i64 s.hi, .slice B n d, .int .i64 s.wk, .slice B2 n2 d2] 33)))
    have HY6 := Lib.hid (Blk.new_at w6 33 #[.int .i64 s.st, .int .i64 s.sa, .int .i64 s.lo, .int .i64 s.hi, .slice B n d, .int .i64 s.wk, .slice B2 n2 d2] (g := w6.heap.size) rfl)
    clear hBt hb6 HG5 HB5 HPS
    go_wp2
    obtain ⟨W6, hW6⟩ : ∃ W6, w6.alloc (.cells #[.int .i64 s.st, .int .i64 s.sa, .int .i64 s.lo, .int .i64 s.hi, .slice B n d, .int .i64 s.wk, .slice B2 n2 d2] 33) = W6 := ⟨_, rfl⟩
    rw [hW6] at HG6 HB6 HX6 HY6 ⊢
    clear hW6
    have hS : Below W6.heap.size W6 W6.drew := (Below.refl _ _).drew
    refine any_start (S := fun W => Below W6.heap.size W6 W) (by kernel_rfl) hS ?_
    generalize W6.drew = wd at *
    simp only [List.length_cons, List.length_nil, Nat.reduceAdd, List.size_toArray]
    refine any_pure 0 (v := ?_) rfl (by kernel_rfl) (by intro _ _ _ h; exact h) (by assumption) (by rfl) (fun W hW => ?_) ?_
    rotate_left
    · first | (go_simp; done) | (go_simp; with_reducible rfl)
    try simp only [Act.put, List.setIfInBounds_toArray, List.set_cons_zero, List.set_cons_succ]
    refine any_pure 1 (v := ?_) rfl (by kernel_rfl) (by intro _ _ _ h; exact h) (by assumption) (by rfl) (fun W hW => ?_) ?_
    rotate_left
    · first | (go_simp; done) | (go_simp; with_reducible rfl)
    try simp only [Act.put, List.setIfInBounds_toArray, List.set_cons_zero, List.set_cons_succ]
    refine any_pure 2 (v := ?_) rfl (by kernel_rfl) (by intro _ _ _ h; exact h) (by assumption) (by rfl) (fun W hW => ?_) ?_
    rotate_left
    · first | (go_simp; done) | (go_simp; with_reducible rfl)
    try simp only [Act.put, List.setIfInBounds_toArray, List.set_cons_zero, List.set_cons_succ]
    refine any_pure 3 (v := ?_) rfl (by kernel_rfl) (by intro _ _ _ h; exact h) (by assumption) (by rfl) (fun W hW => ?_) ?_
    rotate_left
    · first | (go_simp; done) | (go_simp; with_reducible rfl)
    try simp only [Act.put, List.setIfInBounds_toArray, List.set_cons_zero, List.set_cons_succ]
    refine any_pure 4 (v := ?_) rfl (by kernel_rfl) (by intro _ _ _ h; exact h) (by assumption) (by rfl) (fun W hW => ?_) ?_
    rotate_left
    · first | (go_simp; done) | (go_simp; with_reducible rfl)
    try simp only [Act.put, List.setIfInBounds_toArray, List.set_cons_zero, List.set_cons_succ]
    refine any_pure 5 (v := ?_) rfl (by kernel_rfl) (by intro _ _ _ h; exact h) (by assumption) (by rfl) (fun W hW => ?_) ?_
    rotate_left
    · first | (go_simp; done) | (go_simp; with_reducible rfl)
    try simp only [Act.put, List.setIfInBounds_toArray, List.set_cons_zero, List.set_cons_succ]
    refine any_pure 6 (v := ?_) rfl (by kernel_rfl) (by intro _ _ _ h; exact h) (by assumption) (by rfl) (fun W hW => ?_) ?_
    rotate_left
    · first | (go_simp; done) | (go_simp; with_reducible rfl)
    try simp only [Act.put, List.setIfInBounds_toArray, List.set_cons_zero, List.set_cons_succ]
    refine any_pure 7 (v := ?_) rfl (by kernel_rfl) (by intro _ _ _ h; exact h) (by assumption) (by rfl) (fun W hW => ?_) ?_
    rotate_left
    · have g := HY6.out.later hW; have c0 := g.cell 0; have c1 := g.cell 1; have c2' := g.cell 2; have c3 := g.cell 3; have c4 := g.cell 4; have c5 := g.cell 5; have c6 := g.cell 6; simp only [List.getElem?_toArray, List.getElem?_cons_succ, List.getElem?_cons_zero] at c0 c1 c2' c3 c4 c5 c6; first | (go_simp; done) | (go_simp; with_reducible rfl)
    try simp only [Act.put, List.setIfInBounds_toArray, List.set_cons_zero, List.set_cons_succ]
    refine any_pure 8 (v := ?_) rfl (by kernel_rfl) (by intro _ _ _ h; exact h) (by assumption) (by rfl) (fun W hW => ?_) ?_
    rotate_left
    · have g := HG6.out.later hW; have c0 := g.cell 0; have c1 := g.cell 1; have c2' := g.cell 2; have c3 := g.cell 3; have c4 := g.cell 4; have c5 := g.cell 5; have c6 := g.cell 6; simp only [List.getElem?_toArray, List.getElem?_cons_succ, List.getElem?_cons_zero] at c0 c1 c2' c3 c4 c5 c6; first | (go_simp; done) | (go_simp; with_reducible rfl)
    try simp only [Act.put, List.setIfInBounds_toArray, List.set_cons_zero, List.set_cons_succ]
    refine any_one 9 (by kernel_rfl) rfl (by rfl) (fun K hK => ?_)
    go_simp
    refine (HBR.out _ (sub_trans HB6.out hS)).mono ?_
    rintro y v7 ⟨A', c', rfl, hAt, hb⟩
    have HAT := Lib.hid (And.intro ((HX6.out.up hS).up hb) hAt)
    replace hS := sub_trans hS hb
    refine hK _ _ hS ?_
    clear hK hb hAt
    try simp only [Act.put, List.setIfInBounds_toArray, List.set_cons_zero, List.set_cons_succ]
    refine any_one 10 (by kernel_rfl) rfl (by rfl) (fun K hK => ?_)
    go_simp
    refine (HSM.out _ B B2 d d2 A' c' HAT.out.1 HAT.out.2 trivial).mono ?_
    rintro y v8 ⟨rfl, hb⟩
    replace hS := sub_trans hS hb
    refine hK _ _ hS ?_
    clear hK hb
    try simp only [Act.put, List.setIfInBounds_toArray, List.set_cons_zero, List.set_cons_succ]
    refine any_pure 11 (v := ?_) rfl (by kernel_rfl) (by intro _ _ _ h; exact h) (by assumption) (by rfl) (fun W hW => ?_) ?_
    rotate_left
    · first | (go_simp; done) | (go_simp; with_reducible rfl)
    try simp only [Act.put, List.setIfInBounds_toArray, List.set_cons_zero, List.set_cons_succ]
    refine any_pure 12 (v := ?_) rfl (by kernel_rfl) (by intro _ _ _ h; exact h) (by assumption) (by rfl) (fun W hW => ?_) ?_
    rotate_left
    · first | (go_simp; done) | (go_simp; with_reducible rfl)
    try simp only [Act.put, List.setIfInBounds_toArray, List.set_cons_zero, List.set_cons_succ]
    refine any_done (by kernel_rfl) ?_
    have hfin := sub_trans HB6.out hS
    go_wp2
    go_ret
    exact ⟨rfl, hfin⟩
end Go.Proofs.YteljecehppeamaaGreatDoor
/-
  An argument that is a script. Condition: none.
-/
namespace Go.Fw
open Go.RowKit Go.WideShapes Go.ChangeShapes Go.Deep Go.Joins
set_option linter.unusedVariables false
set_option linter.unusedSimpArgs false
section
variable {H : Type} {enc : TypeId × Value → H} {P : Program} {W : World} {base : Nat} {sp : Nat → Bool} {held : Bool}
theorem leaf_str {m : Nat} {t : TypeId} {i : Nat} {e : TypeId} (hl : leafT P m t i = some e) (he : P.underlying e = some .string) (hk : P.keyTypeAt 1 e = true) {n : Nat} {cs : List Value} {x : DataW H × List MemPlace} (hx : DataW.trod enc P W base sp held n t cs = some x) :
    ∃ s : ByteArray, cs[i]? = some (.string s) ∧ s.size ≤ maxLen := by
  obtain ⟨u, n', y, hu, hy⟩ := leaf_of m t i e hl n cs x hx
  have h2 := (keyLits_of_trod 1 e hk n' [u] y hy).1
  obtain ⟨z, hz, _⟩ := DataW.trod_string he hy
  simp at hz
  subst hz
  refine ⟨z, hu, ?_⟩
  simp only [Program.keyLits, he] at h2
  split at h2
  · assumption
  · cases h2
/-- a slice of anything, as it reads -/
theorem rows_of {α : Type} (f : α → List Value) (s : Nat) (hf : ∀ x, (f x).length = s) (hs : 0 < s) (Q : α → Prop) {t e : TypeId} (ht : P.underlying t = some (.slice e)) (hC : P.cellsOf e = s)
    (each : ∀ (n : Nat) (cs : List Value) (x : DataW H × List MemPlace), cs.length = s → DataW.trod enc P W base sp held n e cs = some x → ∃ a, Q a ∧ f a = cs)
    {fuel : Nat} {cs : List Value} {x : DataW H × List MemPlace} (h : DataW.trod enc P W base sp held fuel t cs = some x) :
    ∃ (A : Option Addr) (c : Nat) (l : List α), cs = [.slice A l.length c] ∧ l.length ≤ c ∧ c ≤ maxLen ∧ (∀ a ∈ l, Q a) ∧ Reads W W.heap.size s A l.length (l.flatMap f) := by
  rcases open_slice ht h with ⟨hcs, _⟩ | ⟨a, len0, cap0, m, n, D, Pl, hcs, hb, hl, hm, hmm, hx, hi⟩
  · exact ⟨none, 0, [], hcs, by simp, by simp [maxLen], by simp, ⟨by simp, fun h => by simp at h⟩⟩
  · have hlm : len0 ≤ m := by rw [hmm]; split <;> omega
    rw [hC] at hi
    have one : ∀ i, i < len0 → ∃ y : α, Q y ∧ ∀ j u, (f y)[j]? = some u → W.cell? (a.add (i * s + j)) = some u := by
      intro i hil
      obtain ⟨cs', hc, ht'⟩ := hi i (by omega)
      obtain ⟨_, hcl, hat⟩ := World.cells?_some hc
      obtain ⟨y, hq, hy⟩ := each n cs' _ hcl ht'
      refine ⟨y, hq, fun j u hu => ?_⟩
      rw [hy] at hu
      have hj : j < s := by have := (List.getElem?_eq_some_iff.1 hu).1; omega
      rw [← add_of_add, hat j hj, hu]
    have all : ∀ k, k ≤ len0 → ∃ l : List α, l.length = k ∧ (∀ y ∈ l, Q y) ∧ ∀ i (hi : i < l.length) j u, (f l[i])[j]? = some u → W.cell? (a.add (i * s + j)) = some u := by
      intro k
      induction k with
      | zero => intro _; exact ⟨[], rfl, by simp, fun i hi => by simp at hi⟩
      | succ k ih =>
        intro hk
        obtain ⟨l, h1, h2, h3⟩ := ih (by omega)
        obtain ⟨y, g1, g2⟩ := one k (by omega)
        refine ⟨l ++ [y], by simp [h1], fun z hz => ?_, fun i hi j u hu => ?_⟩
        · rw [List.mem_append, List.mem_singleton] at hz
          rcases hz with hz | rfl
          · exact h2 z hz
          · exact g1
        · by_cases hik : i < l.length
          · rw [List.getElem_append_left hik] at hu
            exact h3 i hik j u hu
          · obtain rfl : i = k := by simp at hi; omega
            rw [List.getElem_append_right (by omega)] at hu
            simp only [h1, Nat.sub_self, List.getElem_cons_zero] at hu
            exact g2 j u hu
    obtain ⟨l, h1, h2, h3⟩ := all len0 (Nat.le_refl _)
    subst h1
    refine ⟨some a, cap0, l, hcs, hl, hm, h2, flat_length f s hf l, fun hpos => ⟨a, rfl, ?_, fun q u hq => ?_⟩⟩
    · have h0 : 0 < l.length := hpos
      have hl0 : 0 < (f l[0]).length := by rw [hf]; exact hs
      have := World.block_lt_of_cell? W _ (h3 0 h0 0 _ (List.getElem?_eq_getElem hl0))
      rwa [block_of_add] at this
    · have hlt : q < l.length * s := by rw [← flat_length f s hf l]; exact (List.getElem?_eq_some_iff.1 hq).1
      have hi2 : q / s < l.length := Nat.div_lt_of_lt_mul (by rw [Nat.mul_comm]; exact hlt)
      have hd : q / s * s + q % s = q := by rw [Nat.mul_comm]; exact Nat.div_add_mod q s
      have hg := flat_get f s hf l (q / s) (q % s) hi2 (Nat.mod_lt _ hs)
      rw [hd, hq] at hg
      have := h3 _ hi2 (q % s) u hg.symm
      rwa [hd] at this
end
end Go.Fw
namespace Go.Proofs.YteljecehppeamaaGreatDoor
open Go.RowKit Go.Fw Go.WideShapes Go.ChangeShapes Go.Deep
set_option maxHeartbeats 1000000
set_option maxRecDepth 4000
set_option linter.unusedVariables false
set_option linter.unusedSimpArgs false
section
variable {H : Type} {enc : TypeId × Value → H} {W : World}
theorem in64_wf {n : Int} (h : (Lit.int .i64 n).wf = true) : In64 n := by simpa [In64, Lit.wf, IntKind.min, IntKind.max, IntKind.signed, IntKind.bits] using h
/-- a call that came in -/
def ClIn (x : Cl) : Prop := x.id.size ≤ maxLen ∧ (x.id.size ≤ 40 → x.ok)
theorem cl_of {base : Nat} {sp : Nat → Bool} {held : Bool} (n : Nat) (cs : List Value) (x : DataW H × List MemPlace) (hl : cs.length = 11) (h : DataW.trod enc Tryz.prog W base sp held n 50 cs = some x) : ∃ c : Cl, ClIn c ∧ c.cells = cs := by
  obtain ⟨z0, h0, w0⟩ := leaf_int (m := 5) (i := 0) (e := 3) (k := .i64) (by kernel_rfl) Tryz.underlying3 h
  obtain ⟨s1, h1, w1⟩ := leaf_str (m := 5) (i := 1) (e := 9) (by kernel_rfl) Tryz.underlying9 (by kernel_rfl) h
  obtain ⟨z2, h2, w2⟩ := leaf_int (m := 5) (i := 2) (e := 2) (k := .i64) (by kernel_rfl) Tryz.underlying2 h
  obtain ⟨z3, h3, w3⟩ := leaf_int (m := 5) (i := 3) (e := 2) (k := .i64) (by kernel_rfl) Tryz.underlying2 h
  obtain ⟨z4, h4, w4⟩ := leaf_int (m := 5) (i := 4) (e := 3) (k := .i64) (by kernel_rfl) Tryz.underlying3 h
  obtain ⟨z5, h5, w5⟩ := leaf_int (m := 5) (i := 5) (e := 2) (k := .i64) (by kernel_rfl) Tryz.underlying2 h
  obtain ⟨z6, h6, w6⟩ := leaf_int (m := 5) (i := 6) (e := 2) (k := .i64) (by kernel_rfl) Tryz.underlying2 h
  obtain ⟨z7, h7, w7⟩ := leaf_int (m := 5) (i := 7) (e := 2) (k := .i64) (by kernel_rfl) Tryz.underlying2 h
  obtain ⟨z8, h8, w8⟩ := leaf_int (m := 5) (i := 8) (e := 2) (k := .i64) (by kernel_rfl) Tryz.underlying2 h
  obtain ⟨z9, h9, w9⟩ := leaf_int (m := 5) (i := 9) (e := 2) (k := .i64) (by kernel_rfl) Tryz.underlying2 h
  obtain ⟨z10, h10, w10⟩ := leaf_int (m := 5) (i := 10) (e := 2) (k := .i64) (by kernel_rfl) Tryz.underlying2 h
  refine ⟨⟨z0, s1, z2, z3, z4, z5, z6, z7, z8, z9, z10⟩, ⟨w1, fun hz => ⟨in64_wf w0, in64_wf w2, in64_wf w3, in64_wf w4, ⟨in64_wf w5, in64_wf w6, in64_wf w7, in64_wf w8, in64_wf w9, in64_wf w10⟩, by have h9 : s1.size ≤ 40 := hz; show s1.size ≤ 100000; omega⟩⟩, ?_⟩
  match cs, hl with
  | [a0, a1, a2, a3, a4, a5, a6, a7, a8, a9, a10], _ =>
    simp at h0 h1 h2 h3 h4 h5 h6 h7 h8 h9 h10
    simp [Cl.cells, Cl.arr, h0, h1, h2, h3, h4, h5, h6, h7, h8, h9, h10]
/-- a row of calls: its slice, and what it reads -/
structure PrIn (W : World) (q : Value × List Cl) : Prop where
  ex : ∃ A c, q.1 = .slice A q.2.length c ∧ q.2.length ≤ c ∧ c ≤ maxLen ∧ Reads W W.heap.size 11 A q.2.length (cls q.2)
  cl : ∀ x ∈ q.2, ClIn x
theorem pr_of {base : Nat} {sp : Nat → Bool} {held : Bool} (n : Nat) (cs : List Value) (x : DataW H × List MemPlace) (hl : cs.length = 1) (h : DataW.trod enc Tryz.prog W base sp held n 46 cs = some x) : ∃ q : Value × List Cl, PrIn W q ∧ [q.1] = cs := by
  obtain ⟨A, c, l, rfl, h1, h2, h3, h4⟩ := rows_of (enc := enc) Cl.cells 11 Cl.cells_length (by decide) ClIn Tryz.underlying46 (by kernel_rfl) (fun n cs x hl h => cl_of n cs x hl h) h
  exact ⟨(_, l), ⟨⟨A, c, rfl, h1, h2, h4⟩, h3⟩, rfl⟩
theorem flat_one {α : Type} (f : α → Value) (l : List α) : (l.flatMap fun x => [f x]) = l.map f := by
  induction l with
  | nil => rfl
  | cons x l ih => simp; exact ih
theorem arg_script {base : Nat} {v : Value} {d : DataW H} {p : List MemPlace} (hv : Value.okWide Tryz.prog W .any base 27 v) (h : DataW.Trod enc Tryz.prog W 0 (fun _ => true) true 27 v d p) :
    ∃ (s : Sc) (A A2 : Option Addr) (n c n2 c2 : Nat), v = .agg (scArr s A A2 n c n2 c2) ∧ PrgAt W A n s.ps ∧ n ≤ maxLen ∧ Reads W W.heap.size 1 A2 n2 (i64s s.pk) ∧ n2 ≤ maxLen ∧ ScIn s := by
  obtain ⟨cs, rfl, hsz⟩ := okWide_struct Tryz.underlying27 hv
  obtain ⟨fuel, hf⟩ := h
  have hC : Tryz.prog.cellsOf 27 = 7 := by kernel_rfl
  have hf2 : DataW.trod enc Tryz.prog W 0 (fun _ => true) true fuel 27 cs.toList = some (d, p) := by simpa [Value.cells] using hf
  have hl : cs.toList.length = 7 := by rw [Array.length_toList]; exact hsz.trans hC
  obtain ⟨z0, h0, w0⟩ := leaf_int (m := 5) (i := 0) (e := 3) (k := .i64) (by kernel_rfl) Tryz.underlying3 hf2
  obtain ⟨z1, h1, w1⟩ := leaf_int (m := 5) (i := 1) (e := 3) (k := .i64) (by kernel_rfl) Tryz.underlying3 hf2
  obtain ⟨z2, h2, w2⟩ := leaf_int (m := 5) (i := 2) (e := 3) (k := .i64) (by kernel_rfl) Tryz.underlying3 hf2
  obtain ⟨z3, h3, w3⟩ := leaf_int (m := 5) (i := 3) (e := 3) (k := .i64) (by kernel_rfl) Tryz.underlying3 hf2
  obtain ⟨z5, h5, w5⟩ := leaf_int (m := 5) (i := 5) (e := 3) (k := .i64) (by kernel_rfl) Tryz.underlying3 hf2
  obtain ⟨ys, n', _, _, _, hyl, hat⟩ := DataW.trod_struct Tryz.underlying27 hf2
  have f1 := hat 1 _ rfl
  have f3 := hat 3 _ rfl
  have c1 : Tryz.prog.cellsOf 24 = 1 := by kernel_rfl
  have c3 : Tryz.prog.cellsOf 25 = 1 := by kernel_rfl
  have g1 : ∃ y, DataW.trod enc Tryz.prog W 0 (fun _ => true) true n' 24 ((cs.toList.drop 4).take 1) = some y := by
    have h8 : DataW.trod enc Tryz.prog W 0 (fun _ => true) true n' 24 ((cs.toList.drop 4).take (Tryz.prog.cellsOf 24)) = ys[1]? := f1
    rw [c1, List.getElem?_eq_getElem (by rw [hyl]; decide)] at h8
    exact ⟨_, h8⟩
  have g3 : ∃ y, DataW.trod enc Tryz.prog W 0 (fun _ => true) true n' 25 ((cs.toList.drop 6).take 1) = some y := by
    have h8 : DataW.trod enc Tryz.prog W 0 (fun _ => true) true n' 25 ((cs.toList.drop 6).take (Tryz.prog.cellsOf 25)) = ys[3]? := f3
    rw [c3, List.getElem?_eq_getElem (by rw [hyl]; decide)] at h8
    exact ⟨_, h8⟩
  obtain ⟨y1, g1⟩ := g1
  obtain ⟨y3, g3⟩ := g3
  obtain ⟨A, c, qs, e1, q1, q2, q3, q4⟩ := rows_of (enc := enc) (fun q : Value × List Cl => [q.1]) 1 (fun _ => rfl) (by decide) (PrIn W) Tryz.underlying24 (by kernel_rfl) (fun n cs x hl h => pr_of n cs x hl h) g1
  obtain ⟨A2, c2, pk, e3, r1, r2, r3, r4⟩ := rows_of (enc := enc) (fun n : Int => [Value.int .i64 n]) 1 (fun _ => rfl) (by decide) In64 Tryz.underlying25 (by kernel_rfl) (fun n cs x hl h => by
    match cs, hl with
    | [u], _ =>
      obtain ⟨z, hz, _, hw⟩ := DataW.trod_int Tryz.underlying3 h
      exact ⟨z, in64_wf hw, hz.symm⟩) g3
  have hcs : cs.toList = (scArr ⟨z0, z1, z2, z3, qs.map Prod.snd, z5, pk⟩ A A2 qs.length c pk.length c2).toList := by
    generalize cs.toList = L at *
    match L, hl with
    | [a0, a1, a2, a3, a4, a5, a6], _ =>
      simp at h0 h1 h2 h3 h5 e1 e3
      simp [scArr, h0, h1, h2, h3, h5, e1, e3]
  refine ⟨⟨z0, z1, z2, z3, qs.map Prod.snd, z5, pk⟩, A, A2, qs.length, c, pk.length, c2, by rw [Array.toList_inj.1 hcs], ⟨qs.map Prod.fst, by rw [← flat_one]; exact q4, by simp, fun i hi => ?_⟩, by omega, by rw [flat_one] at r4; exact r4, by omega, ⟨⟨in64_wf w0, in64_wf w1, in64_wf w2, in64_wf w3⟩, fun p hp x hx => ?_, in64_wf w5, r3⟩⟩
  · have hi2 : i < qs.length := by simpa using hi
    obtain ⟨A', c', k1, k2, k3, k4⟩ := (q3 qs[i] (List.getElem_mem hi2)).ex
    have e : (qs.map Prod.snd)[i]'hi = qs[i].2 := by simp
    refine ⟨A', c', ?_, ?_, k3, ?_⟩
    · show (qs.map Prod.fst)[i]? = some (.slice A' ((qs.map Prod.snd)[i]'hi).length c')
      rw [e, ← k1]
      simp [hi2]
    · show ((qs.map Prod.snd)[i]'hi).length ≤ c'
      rw [e]; exact k2
    · show Reads W W.heap.size 11 A' ((qs.map Prod.snd)[i]'hi).length (cls ((qs.map Prod.snd)[i]'hi))
      rw [e]; exact k4
  · have hp2 : p ∈ qs.map Prod.snd := hp
    obtain ⟨q, hq, rfl⟩ := List.mem_map.1 hp2
    exact (q3 q hq).cl x hx
end
end Go.Proofs.YteljecehppeamaaGreatDoor
/-
  What a row that lists strconv's variables gives the walks. Condition: none.
-/
namespace Go.Fw
open Go.RowKit
set_option linter.unusedVariables false
theorem laid_at {P : Program} {W : World} {x : String × DataW Unit} : ∀ {l : List (String × DataW Unit)}, laidMet P l W → x ∈ l → ∃ r, laidMet P (x :: r) W
  | [], _, h => by cases h
  | y :: r, hl, h => by
    rcases List.mem_cons.1 h with rfl | h
    · exact ⟨r, hl⟩
    · exact laid_at hl.tail h
end Go.Fw
namespace Go.Proofs.YteljecehppeamaaGreatDoor
open Go.RowKit Go.Fw
set_option linter.unusedVariables false
theorem star : "*errors.errorString" = "*" ++ "errors.errorString" := rfl
theorem rowErr (u : TypeId) (h : Tryz.prog.typeName? 3 u = some "*errors.errorString") : u = 159 :=
  typeName_ptr_named (nm := "errors.errorString") (by rw [← star]; kernel_rfl) (by kernel_rfl) (by decide) u (by rw [← star]; exact h)
theorem pow_data : (Rows.laid_internal_strconv_uint64pow10 : DataW Unit) = Lib.tabData .u64 Lib.pow10Tab := by kernel_rfl
theorem tabs_of {W : World} {l : List (String × DataW Unit)} (h : laidMetH Tryz.prog l W) (hp : (l.all fun x => x.2.handleName?.isNone) = true)
    (m1 : ("internal/strconv.uint64pow10", Rows.laid_internal_strconv_uint64pow10) ∈ l) (m2 : ("strconv.ErrSyntax", Rows.laid_strconv_ErrSyntax) ∈ l) (m3 : ("strconv.ErrRange", Rows.laid_strconv_ErrRange) ∈ l) : Tabs Tryz.prog W := by
  rw [MakeChecks.laidMetH_plain _ _ _ hp] at h
  obtain ⟨r1, h1⟩ := laid_at h m1
  obtain ⟨r2, h2⟩ := laid_at h m2
  obtain ⟨r3, h3⟩ := laid_at h m3
  rw [pow_data] at h1
  have hu : Tryz.prog.underlying 57 = some (.interface ((Tryz.prog.underlying 57).elim #[] fun d => match d with | .interface ms => ms | _ => #[])) := by kernel_rfl
  obtain ⟨a2, s2, v2, _⟩ := laid_sentinel h2 (g := 6) (ti := 57) (te := 161) (ts := 9) (f := ((Tryz.prog.underlying 161).bind fun d => match d with | .struct fs => fs[0]? | _ => none).getD default) (by kernel_rfl) (by kernel_rfl) hu rowErr (by kernel_rfl) (by kernel_rfl) (by kernel_rfl) (by kernel_rfl) (by kernel_rfl) (by kernel_rfl) (by kernel_rfl)
  obtain ⟨a3, s3, v3, _⟩ := laid_sentinel h3 (g := 7) (ti := 57) (te := 161) (ts := 9) (f := ((Tryz.prog.underlying 161).bind fun d => match d with | .struct fs => fs[0]? | _ => none).getD default) (by kernel_rfl) (by kernel_rfl) hu rowErr (by kernel_rfl) (by kernel_rfl) (by kernel_rfl) (by kernel_rfl) (by kernel_rfl) (by kernel_rfl) (by kernel_rfl)
  exact ⟨Lib.tabIs_of_head (g := 1) (t := 129) (e := 93) (n := 20) (by kernel_rfl) (by kernel_rfl) (by kernel_rfl) (by kernel_rfl) (by kernel_rfl) (by kernel_rfl) h1, ⟨_, _, v2⟩, ⟨_, _, v3⟩⟩
end Go.Proofs.YteljecehppeamaaGreatDoor
/-
  The last step of a row that lists variables, where a walk wants the first world's shape too. Condition: none.
-/
namespace Go.Fw
open Go.RowKit
set_option linter.unusedVariables false
variable {H : Type} {enc : TypeId × Value → H}
/-- the laid variables and the world's shape, both handed on -/
theorem returns_laid_shaped {a : Assume} {C : Checked} {os : Os} {f : FuncId} {fn : Func} {s : ChangeSpec} {conds : List PathCond} {apart fresh handsOn again : Bool} {X : World → Array Value → Prop}
    (hX : ∀ (w w' : World) (args : Array Value), w.heap = w'.heap → X w args → X w' args)
    (own : ownKnob C.prog.godebug = none) (started : os.Started) (noInit : C.prog.inits.idxOf? f = none) (hfn : C.prog.funcs[f]? = some fn)
    (witness : ∃ (w : World) (tape : Tape) (i : Input), w.os = os ∧ (w.forCall tape i).Shaped C.prog ∧ i.vars = [] ∧ Input.okWide C.prog (w.forCall tape i) .any w.heap.size f i ∧
      ((s.pre enc C.prog fn conds apart (w.forCall tape i).memory i.args ∧ X (w.forCall tape i).memory i.args) ∧ sizedMet enc C.prog fn (OpenSpec.ofChange s) apart (w.forCall tape i).memory i.args) ∧ a.holds C.prog (lone (Frame.enter C.prog f i.args .normal) [] (w.forCall tape i)))
    (contract : ∀ (W : World) (base : Nat) (args : Array Value) (ds gs : List (DataW H)) (before : List MemPlace),
      (∀ (j : Nat) t v, fn.params[j]? = some t → args[j]? = some v → Value.okWide C.prog W .any base t v) →
      DataW.Whole enc C.prog fn.params.toList s.vars apart W args.toList ds gs before →
      conds.all (PathCond.test C.prog ⟨fn.params.toList, ds, s.plain.varTypes C.prog, gs⟩) = true →
      W.ShapedOpen C.prog → X W args →
      a.holds C.prog (lone (Frame.enter C.prog f args .normal) [] W) →
      Calls C.prog f args W fun e W' => ∃ v, e = .returned v ∧ s.post enc C.prog fn apart fresh handsOn again W args v W') :
    ReturnsInHanded a C os f .any (fun w args => (s.pre enc C.prog fn conds apart w args ∧ X w args) ∧ sizedMet enc C.prog fn (OpenSpec.ofChange s) apart w args) (s.post enc C.prog fn apart fresh handsOn again) := by
  refine returnsInHanded_of_calls own started noInit witness ?_
  intro w tape i _ hsh _ hok hpre hholds
  obtain ⟨_, _, _, fn', hfn', _, _, _, _, hval⟩ := hok
  have e : fn' = fn := Option.some.inj (hfn'.symm.trans hfn)
  subst e
  obtain ⟨⟨⟨ds, gs, before, hw, hc⟩, hx⟩, hz⟩ := hpre
  have hw' := DataW.Whole.of_heap (w' := w.forCall tape i) (by rfl) hw
  refine (contract (w.forCall tape i) w.heap.size i.args ds gs before hval hw' hc hsh (hX _ _ _ (by rfl) hx) hholds).mono fun e W' ⟨v, he, hp⟩ => ?_
  subst he
  exact ChangeSpec.post_blind hp
end Go.Fw
namespace Go.Proofs.YteljecehppeamaaGreatDoor
open Go.RowKit Go.Fw
theorem ready_of {W : World} {l : List (String × DataW Unit)} (h : laidMetH Tryz.prog l W) (hsh : W.ShapedOpen Tryz.prog) (hp : (l.all fun x => x.2.handleName?.isNone) = true)
    (m1 : ("internal/strconv.uint64pow10", Rows.laid_internal_strconv_uint64pow10) ∈ l) (m2 : ("strconv.ErrSyntax", Rows.laid_strconv_ErrSyntax) ∈ l) (m3 : ("strconv.ErrRange", Rows.laid_strconv_ErrRange) ∈ l) : Ready W :=
  ⟨tabs_of h hp m1 m2 m3, hasMax_of hsh⟩
end Go.Proofs.YteljecehppeamaaGreatDoor
/-
  A world in which the listed variables lie as start-up code lays them (chapter 42). Condition: none.
-/
namespace Go.Proofs.YteljecehppeamaaGreatDoor
open Go.RowKit Go.Fw
set_option linter.unusedVariables false
def litCells : DataW Unit → List Value
  | .agg l => l.map fun d => match d with
    | .lit (.int k z) => .int k z
    | _ => undef
  | _ => []
/-- the door's own heap, and the pinned table laid in its block -/
noncomputable def laidWorld (os : Os) : World :=
  { World.doorLaid Tryz.prog 72 os with heap := (World.doorLaid Tryz.prog 72 os).heap.setIfInBounds 2 (.cells (litCells Go.Pinned.utf8First).toArray 140) }
set_option maxRecDepth 100000 in
theorem door_met_sctells (os : Os) (args : Array Value) : laidMetH Tryz.prog Rows.scriptTellsRow.laid ((laidWorld os).forCall (fun _ _ => 0) ⟨#[], args, []⟩).memory :=
  laidMetH_of_parts3 (fuel := 8) (laidMet_of_run' 8 (by kernel_rfl) (by kernel_rfl)) (by kernel_rfl) (by kernel_rfl)
theorem door_met_sclong (os : Os) (args : Array Value) : laidMetH Tryz.prog Rows.scriptLongRow.laid ((laidWorld os).forCall (fun _ _ => 0) ⟨#[], args, []⟩).memory := door_met_sctells os args
end Go.Proofs.YteljecehppeamaaGreatDoor
