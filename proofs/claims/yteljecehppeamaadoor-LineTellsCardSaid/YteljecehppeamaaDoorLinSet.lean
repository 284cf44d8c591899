/-
  The reference's set walked (chapter 41). Condition: few words.
-/
import Derived.Test.YteljecehppeamaaDoorLinNums
import Derived.Test.YteljecehppeamaaDoorLinTold
import Derived.Test.YteljecehppeamaaDoorLinParse
namespace Go.Proofs.YteljecehppeamaaDoor
open Go.RowKit Go.Fw Go.Shelf
set_option maxHeartbeats 1000000
set_option maxRecDepth 100000
set_option linter.unusedVariables false
set_option linter.unusedSimpArgs false
/-- a call of words, and whether it could be one -/
def BarePost (k : Nat) (l : List ByteArray) (w : World) (e : Ending) (w' : World) : Prop := ∃ y : Cl, e = .returned (.tuple #[y.val, .bool (readC k l).isSome]) ∧ (∀ x, readC k l = some x → y = x) ∧ Below w.heap.size w w'
theorem barePost_no {k : Nat} {l : List ByteArray} {w w' : World} (y : Cl) (h : readC k l = none) (hb : Below w.heap.size w w') : BarePost k l w (.returned (.tuple #[y.val, .bool false])) w' := ⟨y, by rw [h]; rfl, (fun x hx => by rw [h] at hx; cases hx), hb⟩
theorem barePost_yes {k : Nat} {l : List ByteArray} {w w' : World} {y : Cl} (h : readC k l = some y) (hb : Below w.heap.size w w') : BarePost k l w (.returned (.tuple #[y.val, .bool true])) w' := ⟨y, by rw [h]; rfl, (fun x hx => by rw [h] at hx; injection hx), hb⟩
theorem readC_len {k : Nat} {l : List ByteArray} {x : Cl} (h : readC k l = some x) : (k = 1 → l.length = 4) ∧ (k = 2 → l.length = 2) ∧ (k = 3 → l.length = 1) ∧ (k = 4 → l.length = 2) ∧ (k = 5 → l.length = 5) ∧ (k = 6 → l.length = 14) ∧ (k = 7 → l.length = 2) ∧ (k = 8 → l.length = 1) := by
  unfold readC at h
  split at h
  all_goals first | (cases h; done) | (refine ⟨?_, ?_, ?_, ?_, ?_, ?_, ?_, ?_⟩ <;> intro e <;> first | rfl | (exact absurd e (by decide)))
theorem reads_get {w : World} {B n : Nat} {A : Option Addr} {l : List ByteArray} (h : Reads w B 1 A n (strs l)) {k : Nat} (hk : k < n) : ∃ ad, A = some ad ∧ ad.block < B ∧ w.cell? (ad.add k) = some (.string (wdAt l k)) := by
  obtain ⟨ad, u, hA, hb, hux, hc⟩ := h.at_ hk
  have hkl : k < l.length := by have := h.len; rw [strs_lenN] at this; omega
  obtain rfl := strs_getN hux hkl
  refine ⟨ad, hA, hb, ?_⟩
  rw [hc]
  unfold wdAt
  simp [List.getD_eq_getElem?_getD, hkl]
theorem wdAt_size {l : List ByteArray} (h : ∀ x ∈ l, x.size ≤ 100000) (k : Nat) : (wdAt l k).size ≤ 100000 := by
  unfold wdAt
  rw [List.getD_eq_getElem?_getD]
  cases hx : l[k]? with
  | none => exact Nat.zero_le _
  | some x => exact h x (List.mem_of_getElem? hx)
/-- the cells of a row of the call's own -/
theorem own_blk {w : World} {B : Nat} {e : TypeId} {n : Nat} {v : Value} {xs : List Value} (h : w.ownsRow B e 1 v n xs) (h0 : 0 < n) : ∃ g c cur, v = .slice (some ⟨g, 0, none⟩) n c ∧ B ≤ g ∧ n ≤ c ∧ Blk w g e cur ∧ ∀ (j : Nat) x, xs[j]? = some x → cur[j]? = some x := by
  obtain ⟨hl, h⟩ := h
  rcases h with ⟨_, rfl⟩ | ⟨g, cap, cur, rfl, hB, hh, hnc, hc, hs, ht⟩
  · omega
  · refine ⟨g, cap, cur, rfl, hB, hnc, hh, fun j x hj => ?_⟩
    have hj2 : j < n := by
      have := (List.getElem?_eq_some_iff.1 hj).1
      omega
    rw [← Array.getElem?_toList, ← hj, ← ht, List.getElem?_take_of_lt (by omega)]
theorem read6_no {l : List ByteArray} {q : Nat} (hq : q < 6) (h : numAt l (3 + 2 * q) = none) : readC 6 l = none := by
  cases hr : readC 6 l with
  | none => rfl
  | some x =>
    exfalso
    have hl := (readC_len hr).2.2.2.2.2.1 rfl
    have := read_no_6 (all := l) (by intro e; rw [e] at hl; simp at hl) (.inl ?_)
    · rw [this] at hr
      cases hr
    · have hor : q = 0 ∨ q = 1 ∨ q = 2 ∨ q = 3 ∨ q = 4 ∨ q = 5 := by omega
      rcases hor with rfl | rfl | rfl | rfl | rfl | rfl <;> simp [okUp, h]
theorem read6_yes {l : List ByteArray} (hl : l.length = 14) {a b c d e f : Int} (h0 : numAt l 3 = some a) (h1 : numAt l 5 = some b) (h2 : numAt l 7 = some c) (h3 : numAt l 9 = some d) (h4 : numAt l 11 = some e) (h5 : numAt l 13 = some f) : readC 6 l = some ⟨6, wdAt l 1, 0, 0, 0, a, b, c, d, e, f⟩ := by
  obtain ⟨n3, n5, n7, n9, n11, n13, e3, e5, e7, e9, e11, e13, hr⟩ := read_yes_6 (all := l) (by intro e; rw [e] at hl; simp at hl) (by simp [okUp, h0, h1, h2, h3, h4, h5]; omega) (by omega)
  rw [h0] at e3
  rw [h1] at e5
  rw [h2] at e7
  rw [h3] at e9
  rw [h4] at e11
  rw [h5] at e13
  injection e3 with e3
  injection e5 with e5
  injection e7 with e7
  injection e9 with e9
  injection e11 with e11
  injection e13 with e13
  rw [hr, ← e3, ← e5, ← e7, ← e9, ← e11, ← e13]
theorem rset_any (l : List ByteArray) (n : Nat) (A : Option Addr) (c : Nat) (w : World) (hr : Reads w w.heap.size 1 A n (strs l)) (hl : n ≤ 2000) (hsz : ∀ x ∈ l, x.size ≤ 100000) :
    Calls Tryd.prog 59 #[.slice A n c] w fun y w' => BarePost 6 l w y w' := by
  have HN : Hid (n = l.length) := Lib.hid (by have := hr.len; rwa [strs_lenN] at this)
  have HR := Lib.hid hr
  have HSZ := Lib.hid hsz
  clear hr hsz
  obtain ⟨WA, hWA⟩ : ∃ WA, (w.alloc (.cells #[.int .i64 0, .string ⟨#[]⟩, .int .i64 0, .int .i64 0, .int .i64 0, .int .i64 0, .int .i64 0, .int .i64 0, .int .i64 0, .int .i64 0, .int .i64 0] 35)).alloc (.cells #[.int .i64 6, .string ⟨#[]⟩, .int .i64 0, .int .i64 0, .int .i64 0, .int .i64 0, .int .i64 0, .int .i64 0, .int .i64 0, .int .i64 0, .int .i64 0] 35) = WA := ⟨_, rfl⟩
  have gz : Blk WA w.heap.size 35 Cl.zero.arr := by rw [← hWA]; exact (Blk.new_at _ _ _ rfl).alloc _
  have g4 : Blk WA (w.heap.size + 1) 35 (Cl.arr ⟨6, ⟨#[]⟩, 0, 0, 0, 0, 0, 0, 0, 0, 0⟩) := by rw [← hWA]; exact Blk.new_at _ _ _ (by simp)
  have hbA : Below w.heap.size w WA := by rw [← hWA]; exact sub_alloc (sub_alloc (Below.refl _ w) _) _
  have HG := Lib.hid (And.intro gz (And.intro g4 hbA))
  have HWA := Lib.hid hWA
  clear gz g4 hbA hWA
  by_cases h14 : n = 14
  case neg =>
    have HNO : Hid (readC 6 l = none) := Lib.hid (by
      cases hr : readC 6 l with
      | none => rfl
      | some x => exact absurd (HN.out.trans ((readC_len hr).2.2.2.2.2.1 rfl)) h14)
    have hI : ((n : Int) == 14) = false := by rw [beq_eq_false_iff_ne]; omega
    have hI2 : ((n : Int) != 14) = true := by simpa using hI
    clear h14 HG HWA WA
    go_enter Tryd.func59, Tryd.ntmps59
    go_wp2
    exact bodyPost_ret (v := .tuple #[.agg #[.int .i64 6, .string ⟨#[]⟩, .int .i64 0, .int .i64 0, .int .i64 0, .int .i64 0, .int .i64 0, .int .i64 0, .int .i64 0, .int .i64 0, .int .i64 0], .bool false]) (by simp [results, Tryd.results59, go_sem]) rfl (barePost_no ⟨6, ⟨#[]⟩, 0, 0, 0, 0, 0, 0, 0, 0, 0⟩ HNO.out (sub_alloc (sub_alloc (Below.refl _ w) _) _))
  subst h14
  go_enter Tryd.func59, Tryd.ntmps59
  go_wp2
  rw [HWA.out]
  go_loopw [5, 6] (fun v i wr => ∃ (k : Nat) (vs : List Int), k ≤ 6 ∧ vs.length = k ∧ i = .int .i64 ((3 + 2 * k : Nat) : Int) ∧ MineS 1 WA wr 2 v k (i64s vs) ∧ Hid (∀ (q : Nat) (h : q < vs.length), numAt l (3 + 2 * q) = some vs[q])) (fun _ i _ => 15 - (intOf i).toNat)
  case atStart => exact ⟨0, [], by omega, rfl, rfl, MineS.nil_ 1 WA _, Lib.hid (fun q h => by simp at h)⟩
  case round =>
    obtain ⟨k, vs, hk, hvl, rfl, hm, HV⟩ := hrel
    by_cases hlt : k < 6
    · have hkI : ((3 + 2 * k : Nat) : Int) < 14 := by omega
      have hk14 : 3 + 2 * k < 14 := by omega
      obtain ⟨ad, rfl, _, hc⟩ := reads_get (HR.out.up (sub_trans HG.out.2.2 hm.below)) hk14
      have HX := Lib.hid (fun W => rnumber_any (wdAt l (3 + 2 * k)) W (wdAt_size HSZ.out _))
      have HNA : Hid (numAt l (3 + 2 * k) = readW (wdAt l (3 + 2 * k))) := Lib.hid rfl
      have HI : Hid (((3 + 2 * k : Nat) : Int) + 2 = ((3 + 2 * (k + 1) : Nat) : Int)) := Lib.hid (by omega)
      have hvl2 := Lib.hid hvl
      clear hvl
      generalize wdAt l (3 + 2 * k) = x at *
      generalize hkk : 3 + 2 * k = kk at *
      have HKK := Lib.hid hkk
      clear hkk
      go_wp2_with fail
      refine (HX.out _).mono ?_
      rintro y w1 ⟨⟨m, rfl, hm1, hmv⟩, rfl⟩
      have HMV := Lib.hid (And.intro hm1 hmv)
      clear hm1 hmv
      cases hq : readW x with
      | none =>
        have HQ : Hid (readC 6 l = none) := Lib.hid (read6_no hlt (by rw [HKK.out, HNA.out, hq]))
        have gz := HG.out.1.later hm.below
        have g4 := HG.out.2.1.later hm.below
        have hbb := sub_trans HG.out.2.2 hm.below
        clear hq hm
        simp only [Option.isSome_none]
        obtain ⟨c0, c1, c2, c3, c4, c5, c6, c7, c8, c9, c10⟩ := g4.c11
        obtain ⟨d0, d1, d2, d3, d4, d5, d6, d7, d8, d9, d10⟩ := gz.c11
        have f0 := gz.frozen
        try simp only at c0 c1 c2 c3 c4 c5 c6 c7 c8 c9 c10
        have z := gz.stCl ⟨6, ⟨#[]⟩, 0, 0, 0, 0, 0, 0, 0, 0, 0⟩
        have hz := below_stCl hbb (g := w.heap.size) (Nat.le_refl _) ⟨6, ⟨#[]⟩, 0, 0, 0, 0, 0, 0, 0, 0, 0⟩
        have HZ := Lib.hid (And.intro z hz)
        clear z hz gz hbb
        unfold stCl at HZ
        go_wp2
        obtain ⟨z0, z1, z2, z3, z4, z5, z6, z7, z8, z9, z10⟩ := HZ.out.1.c11
        try simp only at z0 z1 z2 z3 z4 z5 z6 z7 z8 z9 z10
        exact bodyPost_ret (v := .tuple #[.agg #[.int .i64 6, .string ⟨#[]⟩, .int .i64 0, .int .i64 0, .int .i64 0, .int .i64 0, .int .i64 0, .int .i64 0, .int .i64 0, .int .i64 0, .int .i64 0], .bool false]) (by simp [results, Tryd.results59, go_sem, z0, z1, z2, z3, z4, z5, z6, z7, z8, z9, z10]; try rfl) rfl (barePost_no ⟨6, ⟨#[]⟩, 0, 0, 0, 0, 0, 0, 0, 0, 0⟩ HQ.out HZ.out.2)
      | some q =>
        have e : m = q := HMV.out.2 q hq
        subst e
        have HV2 : Hid (∀ (q : Nat) (h : q < (vs ++ [m]).length), numAt l (3 + 2 * q) = some (vs ++ [m])[q]) := Lib.hid (fun q h => by
          by_cases hqk : q < vs.length
          · rw [List.getElem_append_left hqk]
            exact HV.out q hqk
          · have hqe : q = k := by have := hvl2.out; simp at h; omega
            subst hqe
            rw [HKK.out, HNA.out, hq, List.getElem_append_right (by have := hvl2.out; omega)]
            simp [hvl2.out])
        have HE : Hid (i64s vs ++ [.int .i64 m] = i64s (vs ++ [m])) := Lib.hid (i64s_snoc vs m)
        clear hq
        simp only [Option.isSome_some]
        go_wp2_with (at_builtin; go_must (refine wpList_append_oneG elemI64 (by decide) rfl (.tmp 29) (.tmp 31) rfl rfl hm.own hm.le rfl rfl rfl (by simp [Value.oneCell']) (by omega) (by unfold maxLen; omega) ?_); intro v' w' hm' hg')
        have hm2 := hm.app hg' hm'
        go_roundw
        case rel => exact ⟨k + 1, vs ++ [m], by omega, by have := hvl2.out; simp; omega, by rw [← HI.out], by rw [← HE.out]; exact hm2, HV2⟩
        case measure => have := HKK.out; simp [intOf]; omega
    · obtain rfl : k = 6 := by omega
      obtain ⟨a, b, c', d, e, f, rfl⟩ : ∃ a b c d e f, vs = [a, b, c, d, e, f] := by
        match vs, hvl with
        | [a, b, c, d, e, f], _ => exact ⟨a, b, c, d, e, f, rfl⟩
      have HRD : Hid (readC 6 l = some ⟨6, wdAt l 1, 0, 0, 0, a, b, c', d, e, f⟩) := Lib.hid (read6_yes HN.out.symm (HV.out 0 (by simp)) (HV.out 1 (by simp)) (HV.out 2 (by simp)) (HV.out 3 (by simp)) (HV.out 4 (by simp)) (HV.out 5 (by simp)))
      obtain ⟨ad, rfl, hadl, hcw⟩ := reads_get (HR.out.up (sub_trans HG.out.2.2 hm.below)) (show 1 < 14 by decide)
      have hcw2 : wr.cell? { block := ad.block, off := ad.off + 1 } = some (.string (wdAt l 1)) := by first | exact hcw | (simpa [Addr.add] using hcw)
      obtain ⟨g, cp, cur, rfl, hgB, hcp, hblk, hcur⟩ := own_blk hm.own (by decide)
      have gz := HG.out.1.later hm.below
      have g4 := HG.out.2.1.later hm.below
      have hbb := sub_trans HG.out.2.2 hm.below
      have hgn : ¬ w.heap.size + 1 = g := by have := HG.out.2.1.lt; omega
      have hgn0 : ¬ g = w.heap.size + 1 := fun e => hgn e.symm
      generalize wdAt l 1 = idw at *
      have hs4 := g4.set_ 1 (.string idw)
      simp only [Cl.arr, List.setIfInBounds_toArray, List.set_cons_zero, List.set_cons_succ] at hs4
      have hs4 : Blk _ _ 35 (Cl.arr ⟨6, idw, 0, 0, 0, 0, 0, 0, 0, 0, 0⟩) := hs4
      have hsz := gz.far (p := ⟨w.heap.size + 1, 1, none⟩) (by simp) (.string idw)
      have hsk := hblk.far (p := ⟨w.heap.size + 1, 1, none⟩) hgn0 (.string idw)
      have hsb := hbb.setCell (p := ⟨w.heap.size + 1, 1, none⟩) (by simp) (.string idw)
      have HS := Lib.hid (And.intro hsz (And.intro hs4 (And.intro hsk hsb)))
      have q1 := g4.cell 1
      have f4 := g4.frozen
      simp only [Cl.arr, List.getElem?_toArray, List.getElem?_cons_succ, List.getElem?_cons_zero] at q1
      have HCUR := Lib.hid (And.intro (hcur 0 _ rfl) (And.intro (hcur 1 _ rfl) (And.intro (hcur 2 _ rfl) (And.intro (hcur 3 _ rfl) (And.intro (hcur 4 _ rfl) (hcur 5 _ rfl))))))
      clear hs4 hsz hsk hsb gz g4 hbb hblk hcur hm HV hvl hadl
      go_wp2
      clear q1 f4 hcw hcw2
      generalize World.setCell wr _ _ = WB at *
      have hS := HS.out.2.2.1.drew
      refine any_start (S := fun W => Blk W g 2 cur) (by kernel_rfl) hS ?_
      simp only [List.length_cons, List.length_nil, Nat.reduceAdd, List.size_toArray]
      refine any_pure 0 (v := ?_) rfl (by kernel_rfl) (by intro _ _ _ h; exact h) (by assumption) (by rfl) (fun W hW => ?_) ?_
      rotate_left
      · first | (go_simp; done) | (go_simp; with_reducible rfl)
      try simp only [Act.put, List.setIfInBounds_toArray, List.set_cons_zero, List.set_cons_succ]
      refine any_pure 1 (v := ?_) rfl (by kernel_rfl) (by intro _ _ _ h; exact h) (by assumption) (by rfl) (fun W hW => ?_) ?_
      rotate_left
      · first | (go_simp; done) | (go_simp; with_reducible rfl)
      try simp only [Act.put, List.setIfInBounds_toArray, List.set_cons_zero, List.set_cons_succ]
      refine any_pure 2 (v := ?_) rfl (by kernel_rfl) (by intro _ _ _ h; exact h) (by assumption) (by rfl) (fun W hW => ?_) ?_
      rotate_left
      · have c0 := (hW.cell 0).trans HCUR.out.1; first | (go_simp; done) | (go_simp; with_reducible rfl)
      try simp only [Act.put, List.setIfInBounds_toArray, List.set_cons_zero, List.set_cons_succ]
      refine any_pure 3 (v := ?_) rfl (by kernel_rfl) (by intro _ _ _ h; exact h) (by assumption) (by rfl) (fun W hW => ?_) ?_
      rotate_left
      · first | (go_simp; done) | (go_simp; with_reducible rfl)
      try simp only [Act.put, List.setIfInBounds_toArray, List.set_cons_zero, List.set_cons_succ]
      refine any_pure 4 (v := ?_) rfl (by kernel_rfl) (by intro _ _ _ h; exact h) (by assumption) (by rfl) (fun W hW => ?_) ?_
      rotate_left
      · first | (go_simp; done) | (go_simp; with_reducible rfl)
      try simp only [Act.put, List.setIfInBounds_toArray, List.set_cons_zero, List.set_cons_succ]
      refine any_pure 5 (v := ?_) rfl (by kernel_rfl) (by intro _ _ _ h; exact h) (by assumption) (by rfl) (fun W hW => ?_) ?_
      rotate_left
      · have c0 := (hW.cell 1).trans HCUR.out.2.1; first | (go_simp; done) | (go_simp; with_reducible rfl)
      try simp only [Act.put, List.setIfInBounds_toArray, List.set_cons_zero, List.set_cons_succ]
      refine any_pure 6 (v := ?_) rfl (by kernel_rfl) (by intro _ _ _ h; exact h) (by assumption) (by rfl) (fun W hW => ?_) ?_
      rotate_left
      · first | (go_simp; done) | (go_simp; with_reducible rfl)
      try simp only [Act.put, List.setIfInBounds_toArray, List.set_cons_zero, List.set_cons_succ]
      refine any_pure 7 (v := ?_) rfl (by kernel_rfl) (by intro _ _ _ h; exact h) (by assumption) (by rfl) (fun W hW => ?_) ?_
      rotate_left
      · first | (go_simp; done) | (go_simp; with_reducible rfl)
      try simp only [Act.put, List.setIfInBounds_toArray, List.set_cons_zero, List.set_cons_succ]
      refine any_pure 8 (v := ?_) rfl (by kernel_rfl) (by intro _ _ _ h; exact h) (by assumption) (by rfl) (fun W hW => ?_) ?_
      rotate_left
      · have c0 := (hW.cell 2).trans HCUR.out.2.2.1; first | (go_simp; done) | (go_simp; with_reducible rfl)
      try simp only [Act.put, List.setIfInBounds_toArray, List.set_cons_zero, List.set_cons_succ]
      refine any_pure 9 (v := ?_) rfl (by kernel_rfl) (by intro _ _ _ h; exact h) (by assumption) (by rfl) (fun W hW => ?_) ?_
      rotate_left
      · first | (go_simp; done) | (go_simp; with_reducible rfl)
      try simp only [Act.put, List.setIfInBounds_toArray, List.set_cons_zero, List.set_cons_succ]
      refine any_pure 10 (v := ?_) rfl (by kernel_rfl) (by intro _ _ _ h; exact h) (by assumption) (by rfl) (fun W hW => ?_) ?_
      rotate_left
      · first | (go_simp; done) | (go_simp; with_reducible rfl)
      try simp only [Act.put, List.setIfInBounds_toArray, List.set_cons_zero, List.set_cons_succ]
      refine any_pure 11 (v := ?_) rfl (by kernel_rfl) (by intro _ _ _ h; exact h) (by assumption) (by rfl) (fun W hW => ?_) ?_
      rotate_left
      · have c0 := (hW.cell 3).trans HCUR.out.2.2.2.1; first | (go_simp; done) | (go_simp; with_reducible rfl)
      try simp only [Act.put, List.setIfInBounds_toArray, List.set_cons_zero, List.set_cons_succ]
      refine any_pure 12 (v := ?_) rfl (by kernel_rfl) (by intro _ _ _ h; exact h) (by assumption) (by rfl) (fun W hW => ?_) ?_
      rotate_left
      · first | (go_simp; done) | (go_simp; with_reducible rfl)
      try simp only [Act.put, List.setIfInBounds_toArray, List.set_cons_zero, List.set_cons_succ]
      refine any_pure 13 (v := ?_) rfl (by kernel_rfl) (by intro _ _ _ h; exact h) (by assumption) (by rfl) (fun W hW => ?_) ?_
      rotate_left
      · first | (go_simp; done) | (go_simp; with_reducible rfl)
      try simp only [Act.put, List.setIfInBounds_toArray, List.set_cons_zero, List.set_cons_succ]
      refine any_pure 14 (v := ?_) rfl (by kernel_rfl) (by intro _ _ _ h; exact h) (by assumption) (by rfl) (fun W hW => ?_) ?_
      rotate_left
      · have c0 := (hW.cell 4).trans HCUR.out.2.2.2.2.1; first | (go_simp; done) | (go_simp; with_reducible rfl)
      try simp only [Act.put, List.setIfInBounds_toArray, List.set_cons_zero, List.set_cons_succ]
      refine any_pure 15 (v := ?_) rfl (by kernel_rfl) (by intro _ _ _ h; exact h) (by assumption) (by rfl) (fun W hW => ?_) ?_
      rotate_left
      · first | (go_simp; done) | (go_simp; with_reducible rfl)
      try simp only [Act.put, List.setIfInBounds_toArray, List.set_cons_zero, List.set_cons_succ]
      refine any_pure 16 (v := ?_) rfl (by kernel_rfl) (by intro _ _ _ h; exact h) (by assumption) (by rfl) (fun W hW => ?_) ?_
      rotate_left
      · first | (go_simp; done) | (go_simp; with_reducible rfl)
      try simp only [Act.put, List.setIfInBounds_toArray, List.set_cons_zero, List.set_cons_succ]
      refine any_pure 17 (v := ?_) rfl (by kernel_rfl) (by intro _ _ _ h; exact h) (by assumption) (by rfl) (fun W hW => ?_) ?_
      rotate_left
      · have c0 := (hW.cell 5).trans HCUR.out.2.2.2.2.2; first | (go_simp; done) | (go_simp; with_reducible rfl)
      try simp only [Act.put, List.setIfInBounds_toArray, List.set_cons_zero, List.set_cons_succ]
      refine any_pure 18 (v := ?_) rfl (by kernel_rfl) (by intro _ _ _ h; exact h) (by assumption) (by rfl) (fun W hW => ?_) ?_
      rotate_left
      · first | (go_simp; done) | (go_simp; with_reducible rfl)
      try simp only [Act.put, List.setIfInBounds_toArray, List.set_cons_zero, List.set_cons_succ]
      refine any_pure 19 (v := ?_) rfl (by kernel_rfl) (by intro _ _ _ h; exact h) (by assumption) (by rfl) (fun W hW => ?_) ?_
      rotate_left
      · first | (go_simp; done) | (go_simp; with_reducible rfl)
      try simp only [Act.put, List.setIfInBounds_toArray, List.set_cons_zero, List.set_cons_succ]
      refine any_one 20 (by kernel_rfl) rfl (by rfl) (fun K hK => ?_)
      have q4 := HS.out.2.1.drew
      have c5 := q4.cell 5
      have c6 := q4.cell 6
      have c7 := q4.cell 7
      have c8 := q4.cell 8
      have c9 := q4.cell 9
      have c10 := q4.cell 10
      have f4 := q4.frozen
      have d5 := HS.out.2.1.cell 5
      have d6 := HS.out.2.1.cell 6
      have d7 := HS.out.2.1.cell 7
      have d8 := HS.out.2.1.cell 8
      have d9 := HS.out.2.1.cell 9
      have d10 := HS.out.2.1.cell 10
      have f5 := HS.out.2.1.frozen
      simp only [Cl.arr, List.getElem?_toArray, List.getElem?_cons_succ, List.getElem?_cons_zero] at c5 c6 c7 c8 c9 c10 d5 d6 d7 d8 d9 d10
      go_simp
      have t4 := ((((((HS.out.2.1.set_ 5 (.int .i64 a)).set_ 6 (.int .i64 b)).set_ 7 (.int .i64 c')).set_ 8 (.int .i64 d)).set_ 9 (.int .i64 e)).set_ 10 (.int .i64 f)).drew
      simp only [Cl.arr, List.setIfInBounds_toArray, List.set_cons_zero, List.set_cons_succ] at t4
      have t4 : Blk _ _ 35 (Cl.arr ⟨6, idw, 0, 0, 0, a, b, c', d, e, f⟩) := t4
      have tz := ((((((HS.out.1.far (p := ⟨w.heap.size + 1, 5, none⟩) (by simp) (.int .i64 a)).far (p := ⟨w.heap.size + 1, 6, none⟩) (by simp) (.int .i64 b)).far (p := ⟨w.heap.size + 1, 7, none⟩) (by simp) (.int .i64 c')).far (p := ⟨w.heap.size + 1, 8, none⟩) (by simp) (.int .i64 d)).far (p := ⟨w.heap.size + 1, 9, none⟩) (by simp) (.int .i64 e)).far (p := ⟨w.heap.size + 1, 10, none⟩) (by simp) (.int .i64 f)).drew
      have tb := ((((((HS.out.2.2.2.setCell (p := ⟨w.heap.size + 1, 5, none⟩) (by simp) (.int .i64 a)).setCell (p := ⟨w.heap.size + 1, 6, none⟩) (by simp) (.int .i64 b)).setCell (p := ⟨w.heap.size + 1, 7, none⟩) (by simp) (.int .i64 c')).setCell (p := ⟨w.heap.size + 1, 8, none⟩) (by simp) (.int .i64 d)).setCell (p := ⟨w.heap.size + 1, 9, none⟩) (by simp) (.int .i64 e)).setCell (p := ⟨w.heap.size + 1, 10, none⟩) (by simp) (.int .i64 f)).drew
      have tk := ((((((HS.out.2.2.1.far (p := ⟨w.heap.size + 1, 5, none⟩) hgn0 (.int .i64 a)).far (p := ⟨w.heap.size + 1, 6, none⟩) hgn0 (.int .i64 b)).far (p := ⟨w.heap.size + 1, 7, none⟩) hgn0 (.int .i64 c')).far (p := ⟨w.heap.size + 1, 8, none⟩) hgn0 (.int .i64 d)).far (p := ⟨w.heap.size + 1, 9, none⟩) hgn0 (.int .i64 e)).far (p := ⟨w.heap.size + 1, 10, none⟩) hgn0 (.int .i64 f)).drew
      have HS2 := Lib.hid (And.intro tz (And.intro t4 tb))
      refine hK _ _ tk ?_
      clear hK c5 c6 c7 c8 c9 c10 d5 d6 d7 d8 d9 d10 f5 f4 q4 tk t4 tz tb hS
      generalize World.drew (World.setCell _ _ _) = WC at *
      try simp only [Act.put, List.setIfInBounds_toArray, List.set_cons_zero, List.set_cons_succ]
      refine any_done (by kernel_rfl) ?_
      have gz := HS2.out.1
      have g4 := HS2.out.2.1
      have hbb := HS2.out.2.2
      obtain ⟨c0, c1, c2, c3, c4, c5, c6, c7, c8, c9, c10⟩ := g4.c11
      obtain ⟨d0, d1, d2, d3, d4, d5, d6, d7, d8, d9, d10⟩ := gz.c11
      have f0 := gz.frozen
      try simp only at c0 c1 c2 c3 c4 c5 c6 c7 c8 c9 c10
      have z := gz.stCl ⟨6, idw, 0, 0, 0, a, b, c', d, e, f⟩
      have hz := below_stCl hbb (g := w.heap.size) (Nat.le_refl _) ⟨6, idw, 0, 0, 0, a, b, c', d, e, f⟩
      have HZ := Lib.hid (And.intro z hz)
      clear z hz gz hbb
      unfold stCl at HZ
      go_wp2
      obtain ⟨z0, z1, z2, z3, z4, z5, z6, z7, z8, z9, z10⟩ := HZ.out.1.c11
      try simp only at z0 z1 z2 z3 z4 z5 z6 z7 z8 z9 z10
      exact bodyPost_ret (v := .tuple #[.agg #[.int .i64 6, .string idw, .int .i64 0, .int .i64 0, .int .i64 0, .int .i64 a, .int .i64 b, .int .i64 c', .int .i64 d, .int .i64 e, .int .i64 f], .bool true]) (by simp [results, Tryd.results59, go_sem, z0, z1, z2, z3, z4, z5, z6, z7, z8, z9, z10]; try rfl) rfl (barePost_yes HRD.out HZ.out.2)
end Go.Proofs.YteljecehppeamaaDoor
