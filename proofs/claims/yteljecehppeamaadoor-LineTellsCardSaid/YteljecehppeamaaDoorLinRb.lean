/-
  The reference's bare walked (chapter 41). Condition: few words.
-/
import Derived.Test.YteljecehppeamaaDoorLinSet
namespace Go.Proofs.YteljecehppeamaaDoor
open Go.RowKit Go.Fw Go.Shelf
set_option maxHeartbeats 1000000
set_option maxRecDepth 100000
set_option linter.unusedVariables false
set_option linter.unusedSimpArgs false
theorem readC_lenK {k n : Nat} {l : List ByteArray} (hk : ∀ x, readC k l = some x → l.length = n) (h : ¬ l.length = n) : readC k l = none := by
  cases hr : readC k l with
  | none => rfl
  | some x => exact absurd (hk x hr) h
theorem rbare_w1 (l : List ByteArray) (n : Nat) (A : Option Addr) (c : Nat) (w : World) (hr : Reads w w.heap.size 1 A n (strs l)) (hl : n ≤ 2000) (hc : n ≤ c) (hcm : c ≤ maxLen) (hsz : ∀ x ∈ l, x.size ≤ 100000) :
    Calls Tryd.prog 41 #[.int .i64 1, .slice A n c] w fun y w' => BarePost 1 l w y w' := by
  have HN : Hid (n = l.length) := Lib.hid (by have := hr.len; rwa [strs_lenN] at this)
  have HR := Lib.hid hr
  have HSZ := Lib.hid hsz
  clear hr hsz
  unfold maxLen at hcm
  by_cases hn : n = 4
  case neg =>
    have HNO : Hid (readC 1 l = none) := Lib.hid (readC_lenK (n := 4) (fun x hx => (readC_len hx).1 rfl) (by rw [← HN.out]; exact hn))
    have hI : ((n : Int) == 4) = false := by rw [beq_eq_false_iff_ne]; omega
    have hI2 : ((n : Int) != 4) = true := by simpa using hI
    clear hn
    go_enter Tryd.func41, Tryd.ntmps41
    go_wp2
    exact bodyPost_ret (v := .tuple #[.agg #[.int .i64 1, .string ⟨#[]⟩, .int .i64 0, .int .i64 0, .int .i64 0, .int .i64 0, .int .i64 0, .int .i64 0, .int .i64 0, .int .i64 0, .int .i64 0], .bool false]) (by simp [results, Tryd.results41, go_sem]; try rfl) rfl (barePost_no ⟨1, ⟨#[]⟩, 0, 0, 0, 0, 0, 0, 0, 0, 0⟩ HNO.out (sub_alloc (sub_alloc (Below.refl _ w) _) _))
  subst hn
  obtain ⟨y0, y1, y2, y3, rfl⟩ : ∃ y0 y1 y2 y3, l = [y0, y1, y2, y3] := by
    match l, HN.out with
    | [y0, y1, y2, y3], _ => exact ⟨y0, y1, y2, y3, rfl⟩
  obtain ⟨WA, hWA⟩ : ∃ WA, (w.alloc (.cells #[.int .i64 0, .string ⟨#[]⟩, .int .i64 0, .int .i64 0, .int .i64 0, .int .i64 0, .int .i64 0, .int .i64 0, .int .i64 0, .int .i64 0, .int .i64 0] 35)).alloc (.cells #[.int .i64 1, .string ⟨#[]⟩, .int .i64 0, .int .i64 0, .int .i64 0, .int .i64 0, .int .i64 0, .int .i64 0, .int .i64 0, .int .i64 0, .int .i64 0] 35) = WA := ⟨_, rfl⟩
  have gz : Blk WA w.heap.size 35 Cl.zero.arr := by rw [← hWA]; exact (Blk.new_at _ _ _ rfl).alloc _
  have g4 : Blk WA (w.heap.size + 1) 35 (Cl.arr ⟨1, ⟨#[]⟩, 0, 0, 0, 0, 0, 0, 0, 0, 0⟩) := by rw [← hWA]; exact Blk.new_at _ _ _ (by simp)
  have hbA : Below w.heap.size w WA := by rw [← hWA]; exact sub_alloc (sub_alloc (Below.refl _ w) _) _
  have HG := Lib.hid (And.intro gz (And.intro g4 hbA))
  have HWA := Lib.hid hWA
  clear gz g4 hbA hWA
  obtain ⟨c', rfl⟩ : ∃ c', c = c' + 4 := ⟨c - 4, by omega⟩
  obtain ⟨ad, rfl, hadl, hcw⟩ := reads_get (HR.out.up HG.out.2.2) (show 1 < 4 by decide)
  have hcw2 : WA.cell? { block := ad.block, off := ad.off + 1 } = some (.string y1) := by first | exact hcw | (simpa [Addr.add, wdAt] using hcw)
  clear hcw
  have hcut := (HR.out.up HG.out.2.2).cut (k := 2) (cap := c' + 4) (by decide) (by omega)
  rw [if_neg (by omega)] at hcut
  have HCUT : Hid (Reads WA WA.heap.size 1 (some (ad.add 2)) 2 (strs [y2, y3])) := Lib.hid (by simpa [strs] using hcut)
  clear hcut
  have HXS := Lib.hid (fun cc => rnumbers_any [y2, y3] 2 (some (ad.add 2)) cc WA HCUT.out (by decide) (by intro x hx; simp at hx; rcases hx with rfl | rfl <;> exact HSZ.out _ (by simp)))
  have HCW := Lib.hid hcw2
  have HADL := Lib.hid hadl
  clear hcw2 hadl
  go_enter Tryd.func41, Tryd.ntmps41
  go_wp2_with fail
  rw [HWA.out]
  try simp only [Addr.add] at HXS
  refine (HXS.out _).mono ?_
  rintro y w1 ⟨v, ok, rfl, hyes, hno, hb1⟩
  have gz := HG.out.1.later hb1
  have g4 := HG.out.2.1.later hb1
  have hbb := sub_trans HG.out.2.2 hb1
  cases ok with
  | false =>
    have HNO : Hid (readC 1 [y0, y1, y2, y3] = none) := Lib.hid (by
      have h := hno rfl
      cases h2 : readW y2 <;> cases h3 : readW y3 <;> simp [readC, h2, h3]
      exact absurd (fun x hx => by simp at hx; rcases hx with rfl | rfl <;> simp [h2, h3]) h)
    clear hyes hno
    obtain ⟨c0, c1, c2, c3, c4, c5, c6, c7, c8, c9, c10⟩ := g4.c11
    obtain ⟨d0, d1, d2, d3, d4, d5, d6, d7, d8, d9, d10⟩ := gz.c11
    have f0 := gz.frozen
    try simp only at c0 c1 c2 c3 c4 c5 c6 c7 c8 c9 c10
    have z := gz.stCl ⟨1, ⟨#[]⟩, 0, 0, 0, 0, 0, 0, 0, 0, 0⟩
    have hz := below_stCl hbb (g := w.heap.size) (Nat.le_refl _) ⟨1, ⟨#[]⟩, 0, 0, 0, 0, 0, 0, 0, 0, 0⟩
    have HZ := Lib.hid (And.intro z hz)
    clear z hz gz hbb
    unfold stCl at HZ
    go_wp2
    obtain ⟨z0, z1, z2, z3, z4, z5, z6, z7, z8, z9, z10⟩ := HZ.out.1.c11
    try simp only at z0 z1 z2 z3 z4 z5 z6 z7 z8 z9 z10
    exact bodyPost_ret (v := .tuple #[.agg #[.int .i64 1, .string ⟨#[]⟩, .int .i64 0, .int .i64 0, .int .i64 0, .int .i64 0, .int .i64 0, .int .i64 0, .int .i64 0, .int .i64 0, .int .i64 0], .bool false]) (by simp [results, Tryd.results41, go_sem, z0, z1, z2, z3, z4, z5, z6, z7, z8, z9, z10]; try rfl) rfl (barePost_no ⟨1, ⟨#[]⟩, 0, 0, 0, 0, 0, 0, 0, 0, 0⟩ HNO.out HZ.out.2)
  | true =>
    obtain ⟨hg, hm⟩ := hyes rfl
    obtain ⟨t, ht⟩ := Option.ne_none_iff_exists'.1 (hg y2 (by simp))
    obtain ⟨v2, hv2⟩ := Option.ne_none_iff_exists'.1 (hg y3 (by simp))
    have HYE : Hid (readC 1 [y0, y1, y2, y3] = some ⟨1, y1, t, v2, 0, 0, 0, 0, 0, 0, 0⟩) := Lib.hid (by simp [readC, ht, hv2])
    have hnw : numsW [y2, y3] = [t, v2] := by simp [numsW, ht, hv2]
    rw [hnw] at hm
    obtain ⟨g, cp, cur, rfl, hgB, hcp, hblk, hcur⟩ := own_blk hm.own (Nat.zero_lt_succ _)
    have k0 := (hblk.cell 0).trans (hcur 0 _ rfl)
    have k1 := (hblk.cell 1).trans (hcur 1 _ rfl)
    have hgn : ¬ w.heap.size + 1 = g := by have := HG.out.2.1.lt; have : WA.heap.size ≤ g := hgB; omega
    have hgn0 : ¬ g = w.heap.size + 1 := fun e => hgn e.symm
    have hcw := (hb1.cell (p := { block := ad.block, off := ad.off + 1 }) HADL.out).trans HCW.out
    have hadn : ad.block < w.heap.size := by obtain ⟨ad9, e9, h9, _⟩ := reads_get HR.out (show 0 < 4 by decide); injection e9 with e9; rw [e9]; exact h9
    have t4 := (((g4.set_ 1 (.string y1)).set_ 2 (.int .i64 t)).set_ 3 (.int .i64 v2))
    simp only [Cl.arr, List.setIfInBounds_toArray, List.set_cons_zero, List.set_cons_succ] at t4
    have t4 : Blk _ _ 35 (Cl.arr ⟨1, y1, t, v2, 0, 0, 0, 0, 0, 0, 0⟩) := t4
    have tz := (((gz.far (p := ⟨w.heap.size + 1, 1, none⟩) (by simp) (.string y1)).far (p := ⟨w.heap.size + 1, 2, none⟩) (by simp) (.int .i64 t)).far (p := ⟨w.heap.size + 1, 3, none⟩) (by simp) (.int .i64 v2))
    have tb := (((hbb.setCell (p := ⟨w.heap.size + 1, 1, none⟩) (by simp) (.string y1)).setCell (p := ⟨w.heap.size + 1, 2, none⟩) (by simp) (.int .i64 t)).setCell (p := ⟨w.heap.size + 1, 3, none⟩) (by simp) (.int .i64 v2))
    have HT4 := Lib.hid (And.intro t4 (And.intro tz tb))
    obtain ⟨e0, e1, e2, e3, e4, e5, e6, e7, e8, e9, e10⟩ := g4.c11
    have f4 := g4.frozen
    try simp only at e0 e1 e2 e3 e4 e5 e6 e7 e8 e9 e10
    have kk := hblk
    clear t4 tz tb gz g4 hbb hyes hno hg hm hcur hnw
    have m0 : (w1.setCell ⟨w.heap.size + 1, 1, none⟩ (.string y1)).cell? ⟨g, 0, none⟩ = some (.int .i64 t) := by rw [World.cell?_setCell_other _ _ _ _ (fun e => hgn (congrArg Addr.block e))]; exact k0
    have n0 : (w1.setCell ⟨w.heap.size + 1, 1, none⟩ (.string y1)).cell? ⟨g, 1, none⟩ = some (.int .i64 v2) := by rw [World.cell?_setCell_other _ _ _ _ (fun e => hgn (congrArg Addr.block e))]; exact k1
    have o0 : (w1.setCell ⟨w.heap.size + 1, 1, none⟩ (.string y1)).cell? { block := ad.block, off := ad.off + 1 } = some (.string y1) := by rw [World.cell?_setCell_other _ _ _ _ (fun e => by have e2 : w.heap.size + 1 = ad.block := congrArg Addr.block e; omega)]; exact hcw
    have m1 : ((w1.setCell ⟨w.heap.size + 1, 1, none⟩ (.string y1)).setCell ⟨w.heap.size + 1, 2, none⟩ (.int .i64 t)).cell? ⟨g, 0, none⟩ = some (.int .i64 t) := by rw [World.cell?_setCell_other _ _ _ _ (fun e => hgn (congrArg Addr.block e))]; exact m0
    have n1 : ((w1.setCell ⟨w.heap.size + 1, 1, none⟩ (.string y1)).setCell ⟨w.heap.size + 1, 2, none⟩ (.int .i64 t)).cell? ⟨g, 1, none⟩ = some (.int .i64 v2) := by rw [World.cell?_setCell_other _ _ _ _ (fun e => hgn (congrArg Addr.block e))]; exact n0
    have o1 : ((w1.setCell ⟨w.heap.size + 1, 1, none⟩ (.string y1)).setCell ⟨w.heap.size + 1, 2, none⟩ (.int .i64 t)).cell? { block := ad.block, off := ad.off + 1 } = some (.string y1) := by rw [World.cell?_setCell_other _ _ _ _ (fun e => by have e2 : w.heap.size + 1 = ad.block := congrArg Addr.block e; omega)]; exact o0
    have m2 : (((w1.setCell ⟨w.heap.size + 1, 1, none⟩ (.string y1)).setCell ⟨w.heap.size + 1, 2, none⟩ (.int .i64 t)).setCell ⟨w.heap.size + 1, 3, none⟩ (.int .i64 v2)).cell? ⟨g, 0, none⟩ = some (.int .i64 t) := by rw [World.cell?_setCell_other _ _ _ _ (fun e => hgn (congrArg Addr.block e))]; exact m1
    have n2 : (((w1.setCell ⟨w.heap.size + 1, 1, none⟩ (.string y1)).setCell ⟨w.heap.size + 1, 2, none⟩ (.int .i64 t)).setCell ⟨w.heap.size + 1, 3, none⟩ (.int .i64 v2)).cell? ⟨g, 1, none⟩ = some (.int .i64 v2) := by rw [World.cell?_setCell_other _ _ _ _ (fun e => hgn (congrArg Addr.block e))]; exact n1
    have o2 : (((w1.setCell ⟨w.heap.size + 1, 1, none⟩ (.string y1)).setCell ⟨w.heap.size + 1, 2, none⟩ (.int .i64 t)).setCell ⟨w.heap.size + 1, 3, none⟩ (.int .i64 v2)).cell? { block := ad.block, off := ad.off + 1 } = some (.string y1) := by rw [World.cell?_setCell_other _ _ _ _ (fun e => by have e2 : w.heap.size + 1 = ad.block := congrArg Addr.block e; omega)]; exact o1
    have gz := HT4.out.2.1
    have hbb := HT4.out.2.2
    obtain ⟨p0, p1, p2, p3, p4, p5, p6, p7, p8, p9, p10⟩ := HT4.out.1.c11
    try simp only at p0 p1 p2 p3 p4 p5 p6 p7 p8 p9 p10
    obtain ⟨c0, c1, c2, c3, c4, c5, c6, c7, c8, c9, c10⟩ := HT4.out.1.c11
    obtain ⟨d0, d1, d2, d3, d4, d5, d6, d7, d8, d9, d10⟩ := gz.c11
    have f0 := gz.frozen
    try simp only at c0 c1 c2 c3 c4 c5 c6 c7 c8 c9 c10
    have z := gz.stCl ⟨1, y1, t, v2, 0, 0, 0, 0, 0, 0, 0⟩
    have hz := below_stCl hbb (g := w.heap.size) (Nat.le_refl _) ⟨1, y1, t, v2, 0, 0, 0, 0, 0, 0, 0⟩
    have HZ := Lib.hid (And.intro z hz)
    clear z hz gz hbb
    unfold stCl at HZ
    go_wp2
    obtain ⟨z0, z1, z2, z3, z4, z5, z6, z7, z8, z9, z10⟩ := HZ.out.1.c11
    try simp only at z0 z1 z2 z3 z4 z5 z6 z7 z8 z9 z10
    exact bodyPost_ret (v := .tuple #[.agg #[.int .i64 1, .string y1, .int .i64 t, .int .i64 v2, .int .i64 0, .int .i64 0, .int .i64 0, .int .i64 0, .int .i64 0, .int .i64 0, .int .i64 0], .bool true]) (by simp [results, Tryd.results41, go_sem, z0, z1, z2, z3, z4, z5, z6, z7, z8, z9, z10]; try rfl) rfl (barePost_yes HYE.out HZ.out.2)
theorem rbare_w2 (l : List ByteArray) (n : Nat) (A : Option Addr) (c : Nat) (w : World) (hr : Reads w w.heap.size 1 A n (strs l)) (hl : n ≤ 2000) (hc : n ≤ c) (hcm : c ≤ maxLen) (hsz : ∀ x ∈ l, x.size ≤ 100000) :
    Calls Tryd.prog 41 #[.int .i64 2, .slice A n c] w fun y w' => BarePost 2 l w y w' := by
  have HN : Hid (n = l.length) := Lib.hid (by have := hr.len; rwa [strs_lenN] at this)
  have HR := Lib.hid hr
  have HSZ := Lib.hid hsz
  clear hr hsz
  unfold maxLen at hcm
  by_cases hn : n = 2
  case neg =>
    have HNO : Hid (readC 2 l = none) := Lib.hid (readC_lenK (n := 2) (fun x hx => (readC_len hx).2.1 rfl) (by rw [← HN.out]; exact hn))
    have hI : ((n : Int) == 2) = false := by rw [beq_eq_false_iff_ne]; omega
    have hI2 : ((n : Int) != 2) = true := by simpa using hI
    clear hn
    go_enter Tryd.func41, Tryd.ntmps41
    go_wp2
    exact bodyPost_ret (v := .tuple #[.agg #[.int .i64 2, .string ⟨#[]⟩, .int .i64 0, .int .i64 0, .int .i64 0, .int .i64 0, .int .i64 0, .int .i64 0, .int .i64 0, .int .i64 0, .int .i64 0], .bool false]) (by simp [results, Tryd.results41, go_sem]; try rfl) rfl (barePost_no ⟨2, ⟨#[]⟩, 0, 0, 0, 0, 0, 0, 0, 0, 0⟩ HNO.out (sub_alloc (sub_alloc (Below.refl _ w) _) _))
  subst hn
  obtain ⟨y0, y1, rfl⟩ : ∃ y0 y1, l = [y0, y1] := by
    match l, HN.out with
    | [y0, y1], _ => exact ⟨y0, y1, rfl⟩
  obtain ⟨ad, rfl, _, hcw⟩ := reads_get HR.out (show 1 < 2 by decide)
  have hcw2 : w.cell? { block := ad.block, off := ad.off + 1 } = some (.string y1) := by first | exact hcw | (simpa [Addr.add, wdAt] using hcw)
  clear hcw
  have HX := Lib.hid (fun W => rnumber_any y1 W (HSZ.out _ (by simp)))
  have HNA : Hid (readC 2 [y0, y1] = (readW y1).map fun t => ⟨2, ⟨#[]⟩, t, 0, 0, 0, 0, 0, 0, 0, 0⟩) := Lib.hid (by cases h : readW y1 <;> simp [readC, h] <;> rfl)
  go_enter Tryd.func41, Tryd.ntmps41
  go_wp2_with fail
  refine (HX.out _).mono ?_
  rintro y w1 ⟨⟨m, rfl, hm1, hmv⟩, rfl⟩
  have HMV := Lib.hid (And.intro hm1 hmv)
  clear hm1 hmv
  have HV : Hid (∀ q, readW y1 = some q → readC 2 [y0, y1] = some ⟨2, ⟨#[]⟩, m, 0, 0, 0, 0, 0, 0, 0, 0⟩) := Lib.hid (fun q h => by rw [HNA.out, h, HMV.out.2 q h]; rfl)
  cases hq : readW y1 with
  | none =>
    have HNO : Hid (readC 2 [y0, y1] = none) := Lib.hid (by rw [HNA.out, hq]; rfl)
    clear hq
    simp only [Option.isSome_none]
    go_wp2
    exact bodyPost_ret (v := .tuple #[.agg #[.int .i64 2, .string ⟨#[]⟩, .int .i64 m, .int .i64 0, .int .i64 0, .int .i64 0, .int .i64 0, .int .i64 0, .int .i64 0, .int .i64 0, .int .i64 0], .bool false]) (by simp [results, Tryd.results41, go_sem]; try rfl) rfl (barePost_no ⟨2, ⟨#[]⟩, m, 0, 0, 0, 0, 0, 0, 0, 0⟩ HNO.out (sub_alloc (sub_alloc (Below.refl _ w) _) _))
  | some q =>
    have HYE := Lib.hid (HV.out q hq)
    clear hq
    simp only [Option.isSome_some]
    go_wp2
    exact bodyPost_ret (v := .tuple #[.agg #[.int .i64 2, .string ⟨#[]⟩, .int .i64 m, .int .i64 0, .int .i64 0, .int .i64 0, .int .i64 0, .int .i64 0, .int .i64 0, .int .i64 0, .int .i64 0], .bool true]) (by simp [results, Tryd.results41, go_sem]; try rfl) rfl (barePost_yes HYE.out (sub_alloc (sub_alloc (Below.refl _ w) _) _))
theorem rbare_w3 (l : List ByteArray) (n : Nat) (A : Option Addr) (c : Nat) (w : World) (hr : Reads w w.heap.size 1 A n (strs l)) (hl : n ≤ 2000) (hc : n ≤ c) (hcm : c ≤ maxLen) (hsz : ∀ x ∈ l, x.size ≤ 100000) :
    Calls Tryd.prog 41 #[.int .i64 3, .slice A n c] w fun y w' => BarePost 3 l w y w' := by
  have HN : Hid (n = l.length) := Lib.hid (by have := hr.len; rwa [strs_lenN] at this)
  have HR := Lib.hid hr
  have HSZ := Lib.hid hsz
  clear hr hsz
  unfold maxLen at hcm
  by_cases hn : n = 1
  case neg =>
    have HNO : Hid (readC 3 l = none) := Lib.hid (readC_lenK (n := 1) (fun x hx => (readC_len hx).2.2.1 rfl) (by rw [← HN.out]; exact hn))
    have hI : ((n : Int) == 1) = false := by rw [beq_eq_false_iff_ne]; omega
    have hI2 : ((n : Int) != 1) = true := by simpa using hI
    clear hn
    go_enter Tryd.func41, Tryd.ntmps41
    go_wp2
    exact bodyPost_ret (v := .tuple #[.agg #[.int .i64 3, .string ⟨#[]⟩, .int .i64 0, .int .i64 0, .int .i64 0, .int .i64 0, .int .i64 0, .int .i64 0, .int .i64 0, .int .i64 0, .int .i64 0], .bool false]) (by simp [results, Tryd.results41, go_sem]; try rfl) rfl (barePost_no ⟨3, ⟨#[]⟩, 0, 0, 0, 0, 0, 0, 0, 0, 0⟩ HNO.out (sub_alloc (sub_alloc (Below.refl _ w) _) _))
  subst hn
  obtain ⟨y0, rfl⟩ : ∃ y0, l = [y0] := by
    match l, HN.out with
    | [y0], _ => exact ⟨y0, rfl⟩
  go_enter Tryd.func41, Tryd.ntmps41
  go_wp2
  exact bodyPost_ret (v := .tuple #[.agg #[.int .i64 3, .string ⟨#[]⟩, .int .i64 0, .int .i64 0, .int .i64 0, .int .i64 0, .int .i64 0, .int .i64 0, .int .i64 0, .int .i64 0, .int .i64 0], .bool true]) (by simp [results, Tryd.results41, go_sem]; try rfl) rfl (barePost_yes (y := ⟨3, ⟨#[]⟩, 0, 0, 0, 0, 0, 0, 0, 0, 0⟩) rfl (sub_alloc (sub_alloc (Below.refl _ w) _) _))
theorem rbare_w4 (l : List ByteArray) (n : Nat) (A : Option Addr) (c : Nat) (w : World) (hr : Reads w w.heap.size 1 A n (strs l)) (hl : n ≤ 2000) (hc : n ≤ c) (hcm : c ≤ maxLen) (hsz : ∀ x ∈ l, x.size ≤ 100000) :
    Calls Tryd.prog 41 #[.int .i64 4, .slice A n c] w fun y w' => BarePost 4 l w y w' := by
  have HN : Hid (n = l.length) := Lib.hid (by have := hr.len; rwa [strs_lenN] at this)
  have HR := Lib.hid hr
  have HSZ := Lib.hid hsz
  clear hr hsz
  unfold maxLen at hcm
  by_cases hn : n = 2
  case neg =>
    have HNO : Hid (readC 4 l = none) := Lib.hid (readC_lenK (n := 2) (fun x hx => (readC_len hx).2.2.2.1 rfl) (by rw [← HN.out]; exact hn))
    have hI : ((n : Int) == 2) = false := by rw [beq_eq_false_iff_ne]; omega
    have hI2 : ((n : Int) != 2) = true := by simpa using hI
    clear hn
    go_enter Tryd.func41, Tryd.ntmps41
    go_wp2
    exact bodyPost_ret (v := .tuple #[.agg #[.int .i64 4, .string ⟨#[]⟩, .int .i64 0, .int .i64 0, .int .i64 0, .int .i64 0, .int .i64 0, .int .i64 0, .int .i64 0, .int .i64 0, .int .i64 0], .bool false]) (by simp [results, Tryd.results41, go_sem]; try rfl) rfl (barePost_no ⟨4, ⟨#[]⟩, 0, 0, 0, 0, 0, 0, 0, 0, 0⟩ HNO.out (sub_alloc (sub_alloc (Below.refl _ w) _) _))
  subst hn
  obtain ⟨y0, y1, rfl⟩ : ∃ y0 y1, l = [y0, y1] := by
    match l, HN.out with
    | [y0, y1], _ => exact ⟨y0, y1, rfl⟩
  obtain ⟨ad, rfl, _, hcw⟩ := reads_get HR.out (show 1 < 2 by decide)
  have hcw2 : w.cell? { block := ad.block, off := ad.off + 1 } = some (.string y1) := by first | exact hcw | (simpa [Addr.add, wdAt] using hcw)
  clear hcw
  have HX := Lib.hid (fun W => rnumber_any y1 W (HSZ.out _ (by simp)))
  have HNA : Hid (readC 4 [y0, y1] = (readW y1).map fun t => ⟨4, ⟨#[]⟩, 0, 0, t, 0, 0, 0, 0, 0, 0⟩) := Lib.hid (by cases h : readW y1 <;> simp [readC, h] <;> rfl)
  go_enter Tryd.func41, Tryd.ntmps41
  go_wp2_with fail
  refine (HX.out _).mono ?_
  rintro y w1 ⟨⟨m, rfl, hm1, hmv⟩, rfl⟩
  have HMV := Lib.hid (And.intro hm1 hmv)
  clear hm1 hmv
  have HV : Hid (∀ q, readW y1 = some q → readC 4 [y0, y1] = some ⟨4, ⟨#[]⟩, 0, 0, m, 0, 0, 0, 0, 0, 0⟩) := Lib.hid (fun q h => by rw [HNA.out, h, HMV.out.2 q h]; rfl)
  cases hq : readW y1 with
  | none =>
    have HNO : Hid (readC 4 [y0, y1] = none) := Lib.hid (by rw [HNA.out, hq]; rfl)
    clear hq
    simp only [Option.isSome_none]
    go_wp2
    exact bodyPost_ret (v := .tuple #[.agg #[.int .i64 4, .string ⟨#[]⟩, .int .i64 0, .int .i64 0, .int .i64 m, .int .i64 0, .int .i64 0, .int .i64 0, .int .i64 0, .int .i64 0, .int .i64 0], .bool false]) (by simp [results, Tryd.results41, go_sem]; try rfl) rfl (barePost_no ⟨4, ⟨#[]⟩, 0, 0, m, 0, 0, 0, 0, 0, 0⟩ HNO.out (sub_alloc (sub_alloc (Below.refl _ w) _) _))
  | some q =>
    have HYE := Lib.hid (HV.out q hq)
    clear hq
    simp only [Option.isSome_some]
    go_wp2
    exact bodyPost_ret (v := .tuple #[.agg #[.int .i64 4, .string ⟨#[]⟩, .int .i64 0, .int .i64 0, .int .i64 m, .int .i64 0, .int .i64 0, .int .i64 0, .int .i64 0, .int .i64 0, .int .i64 0], .bool true]) (by simp [results, Tryd.results41, go_sem]; try rfl) rfl (barePost_yes HYE.out (sub_alloc (sub_alloc (Below.refl _ w) _) _))
theorem rbare_w5 (l : List ByteArray) (n : Nat) (A : Option Addr) (c : Nat) (w : World) (hr : Reads w w.heap.size 1 A n (strs l)) (hl : n ≤ 2000) (hc : n ≤ c) (hcm : c ≤ maxLen) (hsz : ∀ x ∈ l, x.size ≤ 100000) :
    Calls Tryd.prog 41 #[.int .i64 5, .slice A n c] w fun y w' => BarePost 5 l w y w' := by
  have HN : Hid (n = l.length) := Lib.hid (by have := hr.len; rwa [strs_lenN] at this)
  have HR := Lib.hid hr
  have HSZ := Lib.hid hsz
  clear hr hsz
  unfold maxLen at hcm
  by_cases hn : n = 5
  case neg =>
    have HNO : Hid (readC 5 l = none) := Lib.hid (readC_lenK (n := 5) (fun x hx => (readC_len hx).2.2.2.2.1 rfl) (by rw [← HN.out]; exact hn))
    have hI : ((n : Int) == 5) = false := by rw [beq_eq_false_iff_ne]; omega
    have hI2 : ((n : Int) != 5) = true := by simpa using hI
    clear hn
    go_enter Tryd.func41, Tryd.ntmps41
    go_wp2
    exact bodyPost_ret (v := .tuple #[.agg #[.int .i64 5, .string ⟨#[]⟩, .int .i64 0, .int .i64 0, .int .i64 0, .int .i64 0, .int .i64 0, .int .i64 0, .int .i64 0, .int .i64 0, .int .i64 0], .bool false]) (by simp [results, Tryd.results41, go_sem]; try rfl) rfl (barePost_no ⟨5, ⟨#[]⟩, 0, 0, 0, 0, 0, 0, 0, 0, 0⟩ HNO.out (sub_alloc (sub_alloc (Below.refl _ w) _) _))
  subst hn
  obtain ⟨y0, y1, y2, y3, y4, rfl⟩ : ∃ y0 y1 y2 y3 y4, l = [y0, y1, y2, y3, y4] := by
    match l, HN.out with
    | [y0, y1, y2, y3, y4], _ => exact ⟨y0, y1, y2, y3, y4, rfl⟩
  obtain ⟨WA, hWA⟩ : ∃ WA, (w.alloc (.cells #[.int .i64 0, .string ⟨#[]⟩, .int .i64 0, .int .i64 0, .int .i64 0, .int .i64 0, .int .i64 0, .int .i64 0, .int .i64 0, .int .i64 0, .int .i64 0] 35)).alloc (.cells #[.int .i64 5, .string ⟨#[]⟩, .int .i64 0, .int .i64 0, .int .i64 0, .int .i64 0, .int .i64 0, .int .i64 0, .int .i64 0, .int .i64 0, .int .i64 0] 35) = WA := ⟨_, rfl⟩
  have gz : Blk WA w.heap.size 35 Cl.zero.arr := by rw [← hWA]; exact (Blk.new_at _ _ _ rfl).alloc _
  have g4 : Blk WA (w.heap.size + 1) 35 (Cl.arr ⟨5, ⟨#[]⟩, 0, 0, 0, 0, 0, 0, 0, 0, 0⟩) := by rw [← hWA]; exact Blk.new_at _ _ _ (by simp)
  have hbA : Below w.heap.size w WA := by rw [← hWA]; exact sub_alloc (sub_alloc (Below.refl _ w) _) _
  have HG := Lib.hid (And.intro gz (And.intro g4 hbA))
  have HWA := Lib.hid hWA
  clear gz g4 hbA hWA
  obtain ⟨c', rfl⟩ : ∃ c', c = c' + 5 := ⟨c - 5, by omega⟩
  obtain ⟨ad, rfl, hadl, hcw⟩ := reads_get (HR.out.up HG.out.2.2) (show 2 < 5 by decide)
  have hcw2 : WA.cell? { block := ad.block, off := ad.off + 2 } = some (.string y2) := by first | exact hcw | (simpa [Addr.add, wdAt] using hcw)
  clear hcw
  obtain ⟨ad2, he2, _, hcv⟩ := reads_get (HR.out.up HG.out.2.2) (show 1 < 5 by decide)
  obtain rfl : ad2 = ad := (Option.some.inj he2).symm
  have hcv2 : WA.cell? { block := ad2.block, off := ad2.off + 1 } = some (.string y1) := by first | exact hcv | (simpa [Addr.add, wdAt] using hcv)
  clear hcv he2
  have HX1 := Lib.hid (fun W => rnumber_any y1 W (HSZ.out _ (by simp)))
  have hcut := (HR.out.up HG.out.2.2).cut (k := 3) (cap := c' + 5) (by decide) (by omega)
  rw [if_neg (by omega)] at hcut
  have HCUT : Hid (Reads WA WA.heap.size 1 (some (ad2.add 3)) 2 (strs [y3, y4])) := Lib.hid (by simpa [strs] using hcut)
  clear hcut
  have HXS := Lib.hid (fun cc => rnumbers_any [y3, y4] 2 (some (ad2.add 3)) cc WA HCUT.out (by decide) (by intro x hx; simp at hx; rcases hx with rfl | rfl <;> exact HSZ.out _ (by simp)))
  have HCW := Lib.hid hcw2
  have HADL := Lib.hid hadl
  clear hcw2 hadl
  go_enter Tryd.func41, Tryd.ntmps41
  rw [← HWA.out] at hcv2
  go_wp2_with fail
  refine (HX1.out _).mono ?_
  rintro y w0 ⟨⟨m, rfl, hm1, hmv⟩, rfl⟩
  rw [HWA.out]
  have HMV := Lib.hid (And.intro hm1 hmv)
  clear hm1 hmv hcv2
  go_wp2_with fail
  try simp only [Addr.add] at HXS
  refine (HXS.out _).mono ?_
  rintro y w1 ⟨v, ok, rfl, hyes, hno, hb1⟩
  have gz := HG.out.1.later hb1
  have g4 := HG.out.2.1.later hb1
  have hbb := sub_trans HG.out.2.2 hb1
  by_cases hboth : ok = true ∧ (readW y1).isSome = true
  case neg =>
    have HNO : Hid (readC 5 [y0, y1, y2, y3, y4] = none) := Lib.hid (by
      cases h1 : readW y1 with
      | none => simp [readC, h1]
      | some q =>
        have hf : ok = false := by
          cases ok
          · rfl
          · exact absurd ⟨rfl, by rw [h1]; rfl⟩ hboth
        have h := hno hf
        cases h2 : readW y3 <;> cases h3 : readW y4 <;> simp [readC, h1, h2, h3]
        exact absurd (fun x hx => by simp at hx; rcases hx with rfl | rfl <;> simp [h2, h3]) h)
    have hor : ok = false ∨ (ok = true ∧ (readW y1).isSome = false) := by
      cases ok
      · exact .inl rfl
      · refine .inr ⟨rfl, ?_⟩
        cases h : (readW y1).isSome
        · rfl
        · exact absurd ⟨rfl, h⟩ hboth
    clear hboth hyes hno
    rcases hor with rfl | ⟨rfl, h1⟩
    · skip
      obtain ⟨c0, c1, c2, c3, c4, c5, c6, c7, c8, c9, c10⟩ := g4.c11
      obtain ⟨d0, d1, d2, d3, d4, d5, d6, d7, d8, d9, d10⟩ := gz.c11
      have f0 := gz.frozen
      try simp only at c0 c1 c2 c3 c4 c5 c6 c7 c8 c9 c10
      have z := gz.stCl ⟨5, ⟨#[]⟩, 0, 0, 0, 0, 0, 0, 0, 0, 0⟩
      have hz := below_stCl hbb (g := w.heap.size) (Nat.le_refl _) ⟨5, ⟨#[]⟩, 0, 0, 0, 0, 0, 0, 0, 0, 0⟩
      have HZ := Lib.hid (And.intro z hz)
      clear z hz gz hbb
      unfold stCl at HZ
      go_wp2
      obtain ⟨z0, z1, z2, z3, z4, z5, z6, z7, z8, z9, z10⟩ := HZ.out.1.c11
      try simp only at z0 z1 z2 z3 z4 z5 z6 z7 z8 z9 z10
      exact bodyPost_ret (v := .tuple #[.agg #[.int .i64 5, .string ⟨#[]⟩, .int .i64 0, .int .i64 0, .int .i64 0, .int .i64 0, .int .i64 0, .int .i64 0, .int .i64 0, .int .i64 0, .int .i64 0], .bool false]) (by simp [results, Tryd.results41, go_sem, z0, z1, z2, z3, z4, z5, z6, z7, z8, z9, z10]; try rfl) rfl (barePost_no ⟨5, ⟨#[]⟩, 0, 0, 0, 0, 0, 0, 0, 0, 0⟩ HNO.out HZ.out.2)
    · rw [h1]
      clear h1
      obtain ⟨c0, c1, c2, c3, c4, c5, c6, c7, c8, c9, c10⟩ := g4.c11
      obtain ⟨d0, d1, d2, d3, d4, d5, d6, d7, d8, d9, d10⟩ := gz.c11
      have f0 := gz.frozen
      try simp only at c0 c1 c2 c3 c4 c5 c6 c7 c8 c9 c10
      have z := gz.stCl ⟨5, ⟨#[]⟩, 0, 0, 0, 0, 0, 0, 0, 0, 0⟩
      have hz := below_stCl hbb (g := w.heap.size) (Nat.le_refl _) ⟨5, ⟨#[]⟩, 0, 0, 0, 0, 0, 0, 0, 0, 0⟩
      have HZ := Lib.hid (And.intro z hz)
      clear z hz gz hbb
      unfold stCl at HZ
      go_wp2
      obtain ⟨z0, z1, z2, z3, z4, z5, z6, z7, z8, z9, z10⟩ := HZ.out.1.c11
      try simp only at z0 z1 z2 z3 z4 z5 z6 z7 z8 z9 z10
      exact bodyPost_ret (v := .tuple #[.agg #[.int .i64 5, .string ⟨#[]⟩, .int .i64 0, .int .i64 0, .int .i64 0, .int .i64 0, .int .i64 0, .int .i64 0, .int .i64 0, .int .i64 0, .int .i64 0], .bool false]) (by simp [results, Tryd.results41, go_sem, z0, z1, z2, z3, z4, z5, z6, z7, z8, z9, z10]; try rfl) rfl (barePost_no ⟨5, ⟨#[]⟩, 0, 0, 0, 0, 0, 0, 0, 0, 0⟩ HNO.out HZ.out.2)
  obtain ⟨rfl, h1⟩ := hboth
  obtain ⟨q1, h1v⟩ := Option.isSome_iff_exists.1 h1
  obtain rfl : m = q1 := HMV.out.2 q1 h1v
  rw [h1]
  obtain ⟨hg, hm⟩ := hyes rfl
  obtain ⟨t, ht⟩ := Option.ne_none_iff_exists'.1 (hg y3 (by simp))
  obtain ⟨v2, hv2⟩ := Option.ne_none_iff_exists'.1 (hg y4 (by simp))
  have HYE : Hid (readC 5 [y0, y1, y2, y3, y4] = some ⟨5, y2, t, v2, m, 0, 0, 0, 0, 0, 0⟩) := Lib.hid (by simp [readC, ht, hv2, h1v])
  have hnw : numsW [y3, y4] = [t, v2] := by simp [numsW, ht, hv2]
  rw [hnw] at hm
  obtain ⟨g, cp, cur, rfl, hgB, hcp, hblk, hcur⟩ := own_blk hm.own (Nat.zero_lt_succ _)
  have k0 := (hblk.cell 0).trans (hcur 0 _ rfl)
  have k1 := (hblk.cell 1).trans (hcur 1 _ rfl)
  have hgn : ¬ w.heap.size + 1 = g := by have := HG.out.2.1.lt; have : WA.heap.size ≤ g := hgB; omega
  have hgn0 : ¬ g = w.heap.size + 1 := fun e => hgn e.symm
  have hcw := (hb1.cell (p := { block := ad2.block, off := ad2.off + 2 }) HADL.out).trans HCW.out
  have hadn : ad2.block < w.heap.size := by obtain ⟨ad9, e9, h9, _⟩ := reads_get HR.out (show 0 < 5 by decide); injection e9 with e9; rw [e9]; exact h9
  have t4 := ((((g4.set_ 4 (.int .i64 m)).set_ 1 (.string y2)).set_ 2 (.int .i64 t)).set_ 3 (.int .i64 v2))
  simp only [Cl.arr, List.setIfInBounds_toArray, List.set_cons_zero, List.set_cons_succ] at t4
  have t4 : Blk _ _ 35 (Cl.arr ⟨5, y2, t, v2, m, 0, 0, 0, 0, 0, 0⟩) := t4
  have tz := ((((gz.far (p := ⟨w.heap.size + 1, 4, none⟩) (by simp) (.int .i64 m)).far (p := ⟨w.heap.size + 1, 1, none⟩) (by simp) (.string y2)).far (p := ⟨w.heap.size + 1, 2, none⟩) (by simp) (.int .i64 t)).far (p := ⟨w.heap.size + 1, 3, none⟩) (by simp) (.int .i64 v2))
  have tb := ((((hbb.setCell (p := ⟨w.heap.size + 1, 4, none⟩) (by simp) (.int .i64 m)).setCell (p := ⟨w.heap.size + 1, 1, none⟩) (by simp) (.string y2)).setCell (p := ⟨w.heap.size + 1, 2, none⟩) (by simp) (.int .i64 t)).setCell (p := ⟨w.heap.size + 1, 3, none⟩) (by simp) (.int .i64 v2))
  have HT4 := Lib.hid (And.intro t4 (And.intro tz tb))
  obtain ⟨e0, e1, e2, e3, e4, e5, e6, e7, e8, e9, e10⟩ := g4.c11
  have f4 := g4.frozen
  try simp only at e0 e1 e2 e3 e4 e5 e6 e7 e8 e9 e10
  have kk := hblk
  clear t4 tz tb gz g4 hbb hyes hno hg hm hcur hnw
  have m0 : (w1.setCell ⟨w.heap.size + 1, 4, none⟩ (.int .i64 m)).cell? ⟨g, 0, none⟩ = some (.int .i64 t) := by rw [World.cell?_setCell_other _ _ _ _ (fun e => hgn (congrArg Addr.block e))]; exact k0
  have n0 : (w1.setCell ⟨w.heap.size + 1, 4, none⟩ (.int .i64 m)).cell? ⟨g, 1, none⟩ = some (.int .i64 v2) := by rw [World.cell?_setCell_other _ _ _ _ (fun e => hgn (congrArg Addr.block e))]; exact k1
  have o0 : (w1.setCell ⟨w.heap.size + 1, 4, none⟩ (.int .i64 m)).cell? { block := ad2.block, off := ad2.off + 2 } = some (.string y2) := by rw [World.cell?_setCell_other _ _ _ _ (fun e => by have e2 : w.heap.size + 1 = ad2.block := congrArg Addr.block e; omega)]; exact hcw
  have m1 : ((w1.setCell ⟨w.heap.size + 1, 4, none⟩ (.int .i64 m)).setCell ⟨w.heap.size + 1, 1, none⟩ (.string y2)).cell? ⟨g, 0, none⟩ = some (.int .i64 t) := by rw [World.cell?_setCell_other _ _ _ _ (fun e => hgn (congrArg Addr.block e))]; exact m0
  have n1 : ((w1.setCell ⟨w.heap.size + 1, 4, none⟩ (.int .i64 m)).setCell ⟨w.heap.size + 1, 1, none⟩ (.string y2)).cell? ⟨g, 1, none⟩ = some (.int .i64 v2) := by rw [World.cell?_setCell_other _ _ _ _ (fun e => hgn (congrArg Addr.block e))]; exact n0
  have o1 : ((w1.setCell ⟨w.heap.size + 1, 4, none⟩ (.int .i64 m)).setCell ⟨w.heap.size + 1, 1, none⟩ (.string y2)).cell? { block := ad2.block, off := ad2.off + 2 } = some (.string y2) := by rw [World.cell?_setCell_other _ _ _ _ (fun e => by have e2 : w.heap.size + 1 = ad2.block := congrArg Addr.block e; omega)]; exact o0
  have m2 : (((w1.setCell ⟨w.heap.size + 1, 4, none⟩ (.int .i64 m)).setCell ⟨w.heap.size + 1, 1, none⟩ (.string y2)).setCell ⟨w.heap.size + 1, 2, none⟩ (.int .i64 t)).cell? ⟨g, 0, none⟩ = some (.int .i64 t) := by rw [World.cell?_setCell_other _ _ _ _ (fun e => hgn (congrArg Addr.block e))]; exact m1
  have n2 : (((w1.setCell ⟨w.heap.size + 1, 4, none⟩ (.int .i64 m)).setCell ⟨w.heap.size + 1, 1, none⟩ (.string y2)).setCell ⟨w.heap.size + 1, 2, none⟩ (.int .i64 t)).cell? ⟨g, 1, none⟩ = some (.int .i64 v2) := by rw [World.cell?_setCell_other _ _ _ _ (fun e => hgn (congrArg Addr.block e))]; exact n1
  have o2 : (((w1.setCell ⟨w.heap.size + 1, 4, none⟩ (.int .i64 m)).setCell ⟨w.heap.size + 1, 1, none⟩ (.string y2)).setCell ⟨w.heap.size + 1, 2, none⟩ (.int .i64 t)).cell? { block := ad2.block, off := ad2.off + 2 } = some (.string y2) := by rw [World.cell?_setCell_other _ _ _ _ (fun e => by have e2 : w.heap.size + 1 = ad2.block := congrArg Addr.block e; omega)]; exact o1
  have m3 : ((((w1.setCell ⟨w.heap.size + 1, 4, none⟩ (.int .i64 m)).setCell ⟨w.heap.size + 1, 1, none⟩ (.string y2)).setCell ⟨w.heap.size + 1, 2, none⟩ (.int .i64 t)).setCell ⟨w.heap.size + 1, 3, none⟩ (.int .i64 v2)).cell? ⟨g, 0, none⟩ = some (.int .i64 t) := by rw [World.cell?_setCell_other _ _ _ _ (fun e => hgn (congrArg Addr.block e))]; exact m2
  have n3 : ((((w1.setCell ⟨w.heap.size + 1, 4, none⟩ (.int .i64 m)).setCell ⟨w.heap.size + 1, 1, none⟩ (.string y2)).setCell ⟨w.heap.size + 1, 2, none⟩ (.int .i64 t)).setCell ⟨w.heap.size + 1, 3, none⟩ (.int .i64 v2)).cell? ⟨g, 1, none⟩ = some (.int .i64 v2) := by rw [World.cell?_setCell_other _ _ _ _ (fun e => hgn (congrArg Addr.block e))]; exact n2
  have o3 : ((((w1.setCell ⟨w.heap.size + 1, 4, none⟩ (.int .i64 m)).setCell ⟨w.heap.size + 1, 1, none⟩ (.string y2)).setCell ⟨w.heap.size + 1, 2, none⟩ (.int .i64 t)).setCell ⟨w.heap.size + 1, 3, none⟩ (.int .i64 v2)).cell? { block := ad2.block, off := ad2.off + 2 } = some (.string y2) := by rw [World.cell?_setCell_other _ _ _ _ (fun e => by have e2 : w.heap.size + 1 = ad2.block := congrArg Addr.block e; omega)]; exact o2
  have gz := HT4.out.2.1
  have hbb := HT4.out.2.2
  obtain ⟨p0, p1, p2, p3, p4, p5, p6, p7, p8, p9, p10⟩ := HT4.out.1.c11
  try simp only at p0 p1 p2 p3 p4 p5 p6 p7 p8 p9 p10
  obtain ⟨c0, c1, c2, c3, c4, c5, c6, c7, c8, c9, c10⟩ := HT4.out.1.c11
  obtain ⟨d0, d1, d2, d3, d4, d5, d6, d7, d8, d9, d10⟩ := gz.c11
  have f0 := gz.frozen
  try simp only at c0 c1 c2 c3 c4 c5 c6 c7 c8 c9 c10
  have z := gz.stCl ⟨5, y2, t, v2, m, 0, 0, 0, 0, 0, 0⟩
  have hz := below_stCl hbb (g := w.heap.size) (Nat.le_refl _) ⟨5, y2, t, v2, m, 0, 0, 0, 0, 0, 0⟩
  have HZ := Lib.hid (And.intro z hz)
  clear z hz gz hbb
  unfold stCl at HZ
  go_wp2
  obtain ⟨z0, z1, z2, z3, z4, z5, z6, z7, z8, z9, z10⟩ := HZ.out.1.c11
  try simp only at z0 z1 z2 z3 z4 z5 z6 z7 z8 z9 z10
  exact bodyPost_ret (v := .tuple #[.agg #[.int .i64 5, .string y2, .int .i64 t, .int .i64 v2, .int .i64 m, .int .i64 0, .int .i64 0, .int .i64 0, .int .i64 0, .int .i64 0, .int .i64 0], .bool true]) (by simp [results, Tryd.results41, go_sem, z0, z1, z2, z3, z4, z5, z6, z7, z8, z9, z10]; try rfl) rfl (barePost_yes HYE.out HZ.out.2)
theorem rbare_w7 (l : List ByteArray) (n : Nat) (A : Option Addr) (c : Nat) (w : World) (hr : Reads w w.heap.size 1 A n (strs l)) (hl : n ≤ 2000) (hc : n ≤ c) (hcm : c ≤ maxLen) (hsz : ∀ x ∈ l, x.size ≤ 100000) :
    Calls Tryd.prog 41 #[.int .i64 7, .slice A n c] w fun y w' => BarePost 7 l w y w' := by
  have HN : Hid (n = l.length) := Lib.hid (by have := hr.len; rwa [strs_lenN] at this)
  have HR := Lib.hid hr
  have HSZ := Lib.hid hsz
  clear hr hsz
  unfold maxLen at hcm
  by_cases hn : n = 2
  case neg =>
    have HNO : Hid (readC 7 l = none) := Lib.hid (readC_lenK (n := 2) (fun x hx => (readC_len hx).2.2.2.2.2.2.1 rfl) (by rw [← HN.out]; exact hn))
    have hI : ((n : Int) == 2) = false := by rw [beq_eq_false_iff_ne]; omega
    have hI2 : ((n : Int) != 2) = true := by simpa using hI
    clear hn
    go_enter Tryd.func41, Tryd.ntmps41
    go_wp2
    exact bodyPost_ret (v := .tuple #[.agg #[.int .i64 7, .string ⟨#[]⟩, .int .i64 0, .int .i64 0, .int .i64 0, .int .i64 0, .int .i64 0, .int .i64 0, .int .i64 0, .int .i64 0, .int .i64 0], .bool false]) (by simp [results, Tryd.results41, go_sem]; try rfl) rfl (barePost_no ⟨7, ⟨#[]⟩, 0, 0, 0, 0, 0, 0, 0, 0, 0⟩ HNO.out (sub_alloc (sub_alloc (Below.refl _ w) _) _))
  subst hn
  obtain ⟨y0, y1, rfl⟩ : ∃ y0 y1, l = [y0, y1] := by
    match l, HN.out with
    | [y0, y1], _ => exact ⟨y0, y1, rfl⟩
  obtain ⟨ad, rfl, _, hcw⟩ := reads_get HR.out (show 1 < 2 by decide)
  have hcw2 : w.cell? { block := ad.block, off := ad.off + 1 } = some (.string y1) := by first | exact hcw | (simpa [Addr.add, wdAt] using hcw)
  clear hcw
  have hlt := hcw2
  clear hlt
  go_enter Tryd.func41, Tryd.ntmps41
  go_wp2
  exact bodyPost_ret (v := .tuple #[.agg #[.int .i64 7, .string y1, .int .i64 0, .int .i64 0, .int .i64 0, .int .i64 0, .int .i64 0, .int .i64 0, .int .i64 0, .int .i64 0, .int .i64 0], .bool true]) (by simp [results, Tryd.results41, go_sem]; try rfl) rfl (barePost_yes (y := ⟨7, y1, 0, 0, 0, 0, 0, 0, 0, 0, 0⟩) rfl (sub_alloc (sub_alloc (Below.refl _ w) _) _))
theorem rbare_w8 (l : List ByteArray) (n : Nat) (A : Option Addr) (c : Nat) (w : World) (hr : Reads w w.heap.size 1 A n (strs l)) (hl : n ≤ 2000) (hc : n ≤ c) (hcm : c ≤ maxLen) (hsz : ∀ x ∈ l, x.size ≤ 100000) :
    Calls Tryd.prog 41 #[.int .i64 8, .slice A n c] w fun y w' => BarePost 8 l w y w' := by
  have HN : Hid (n = l.length) := Lib.hid (by have := hr.len; rwa [strs_lenN] at this)
  have HR := Lib.hid hr
  have HSZ := Lib.hid hsz
  clear hr hsz
  unfold maxLen at hcm
  by_cases hn : n = 1
  case neg =>
    have HNO : Hid (readC 8 l = none) := Lib.hid (readC_lenK (n := 1) (fun x hx => (readC_len hx).2.2.2.2.2.2.2 rfl) (by rw [← HN.out]; exact hn))
    have hI : ((n : Int) == 1) = false := by rw [beq_eq_false_iff_ne]; omega
    have hI2 : ((n : Int) != 1) = true := by simpa using hI
    clear hn
    go_enter Tryd.func41, Tryd.ntmps41
    go_wp2
    exact bodyPost_ret (v := .tuple #[.agg #[.int .i64 8, .string ⟨#[]⟩, .int .i64 0, .int .i64 0, .int .i64 0, .int .i64 0, .int .i64 0, .int .i64 0, .int .i64 0, .int .i64 0, .int .i64 0], .bool false]) (by simp [results, Tryd.results41, go_sem]; try rfl) rfl (barePost_no ⟨8, ⟨#[]⟩, 0, 0, 0, 0, 0, 0, 0, 0, 0⟩ HNO.out (sub_alloc (sub_alloc (Below.refl _ w) _) _))
  subst hn
  obtain ⟨y0, rfl⟩ : ∃ y0, l = [y0] := by
    match l, HN.out with
    | [y0], _ => exact ⟨y0, rfl⟩
  go_enter Tryd.func41, Tryd.ntmps41
  go_wp2
  exact bodyPost_ret (v := .tuple #[.agg #[.int .i64 8, .string ⟨#[]⟩, .int .i64 0, .int .i64 0, .int .i64 0, .int .i64 0, .int .i64 0, .int .i64 0, .int .i64 0, .int .i64 0, .int .i64 0], .bool true]) (by simp [results, Tryd.results41, go_sem]; try rfl) rfl (barePost_yes (y := ⟨8, ⟨#[]⟩, 0, 0, 0, 0, 0, 0, 0, 0, 0⟩) rfl (sub_alloc (sub_alloc (Below.refl _ w) _) _))
theorem rbare_w6 (l : List ByteArray) (n : Nat) (A : Option Addr) (c : Nat) (w : World) (hr : Reads w w.heap.size 1 A n (strs l)) (hl : n ≤ 2000) (hc : n ≤ c) (hcm : c ≤ maxLen) (hsz : ∀ x ∈ l, x.size ≤ 100000) :
    Calls Tryd.prog 41 #[.int .i64 6, .slice A n c] w fun y w' => BarePost 6 l w y w' := by
  have HN : Hid (n = l.length) := Lib.hid (by have := hr.len; rwa [strs_lenN] at this)
  have HR := Lib.hid hr
  have HSZ := Lib.hid hsz
  clear hr hsz
  unfold maxLen at hcm
  have HS := Lib.hid (fun W (hr : Reads W W.heap.size 1 A n (strs l)) => rset_any l n A c W hr hl HSZ.out)
  obtain ⟨WA, hWA⟩ : ∃ WA, (w.alloc (.cells #[.int .i64 0, .string ⟨#[]⟩, .int .i64 0, .int .i64 0, .int .i64 0, .int .i64 0, .int .i64 0, .int .i64 0, .int .i64 0, .int .i64 0, .int .i64 0] 35)).alloc (.cells #[.int .i64 6, .string ⟨#[]⟩, .int .i64 0, .int .i64 0, .int .i64 0, .int .i64 0, .int .i64 0, .int .i64 0, .int .i64 0, .int .i64 0, .int .i64 0] 35) = WA := ⟨_, rfl⟩
  have gz : Blk WA w.heap.size 35 Cl.zero.arr := by rw [← hWA]; exact (Blk.new_at _ _ _ rfl).alloc _
  have g4 : Blk WA (w.heap.size + 1) 35 (Cl.arr ⟨6, ⟨#[]⟩, 0, 0, 0, 0, 0, 0, 0, 0, 0⟩) := by rw [← hWA]; exact Blk.new_at _ _ _ (by simp)
  have hbA : Below w.heap.size w WA := by rw [← hWA]; exact sub_alloc (sub_alloc (Below.refl _ w) _) _
  have HG := Lib.hid (And.intro gz (And.intro g4 hbA))
  have HWA := Lib.hid hWA
  clear gz g4 hbA hWA
  go_enter Tryd.func41, Tryd.ntmps41
  go_wp2_with fail
  rw [HWA.out]
  refine (HS.out _ (HR.out.up HG.out.2.2)).mono ?_
  rintro y w1 ⟨yv, rfl, hyx, hb1⟩
  have HP := Lib.hid hyx
  generalize hok : (readC 6 l).isSome = ok at *
  have HOK := Lib.hid hok
  clear hok
  have gz := HG.out.1.later hb1
  have hbb := sub_trans HG.out.2.2 hb1
  obtain ⟨d0, d1, d2, d3, d4, d5, d6, d7, d8, d9, d10⟩ := gz.c11
  have f0 := gz.frozen
  have z := gz.stCl yv
  have hz := below_stCl hbb (g := w.heap.size) (Nat.le_refl _) yv
  have HZ := Lib.hid (And.intro z hz)
  clear z hz gz hbb hyx hb1
  unfold stCl at HZ
  simp only [Cl.val, Cl.arr]
  go_wp2
  obtain ⟨z0, z1, z2, z3, z4, z5, z6, z7, z8, z9, z10⟩ := HZ.out.1.c11
  exact bodyPost_ret (v := .tuple #[.agg #[.int .i64 yv.k, .string yv.id, .int .i64 yv.tick, .int .i64 yv.value, .int .i64 yv.handle, .int .i64 yv.a, .int .i64 yv.b, .int .i64 yv.c, .int .i64 yv.d, .int .i64 yv.e, .int .i64 yv.f], .bool ok]) (by simp [results, Tryd.results41, go_sem, z0, z1, z2, z3, z4, z5, z6, z7, z8, z9, z10]; try rfl) rfl ⟨yv, by rw [HOK.out]; rfl, HP.out, HZ.out.2⟩
theorem rbare_words (k : Nat) (h1 : 1 ≤ k) (h8 : k ≤ 8) (l : List ByteArray) (n : Nat) (A : Option Addr) (c : Nat) (w : World) (hr : Reads w w.heap.size 1 A n (strs l)) (hl : n ≤ 2000) (hc : n ≤ c) (hcm : c ≤ maxLen) (hsz : ∀ x ∈ l, x.size ≤ 100000) :
    Calls Tryd.prog 41 #[.int .i64 (k : Int), .slice A n c] w fun y w' => BarePost k l w y w' := by
  have hor : k = 1 ∨ k = 2 ∨ k = 3 ∨ k = 4 ∨ k = 5 ∨ k = 6 ∨ k = 7 ∨ k = 8 := by omega
  rcases hor with rfl | rfl | rfl | rfl | rfl | rfl | rfl | rfl
  · exact rbare_w1 l n A c w hr hl hc hcm hsz
  · exact rbare_w2 l n A c w hr hl hc hcm hsz
  · exact rbare_w3 l n A c w hr hl hc hcm hsz
  · exact rbare_w4 l n A c w hr hl hc hcm hsz
  · exact rbare_w5 l n A c w hr hl hc hcm hsz
  · exact rbare_w6 l n A c w hr hl hc hcm hsz
  · exact rbare_w7 l n A c w hr hl hc hcm hsz
  · exact rbare_w8 l n A c w hr hl hc hcm hsz
end Go.Proofs.YteljecehppeamaaDoor
