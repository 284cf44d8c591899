/-
  script.config and script.Text, walked (chapter 42). Conditions: strconv's table lies in memory; texts of few bytes.
-/
import Derived.Test.YteljecehppeamaaGreatDoorJ10
import Derived.Test.YteljecehppeamaaGreatDoorJ11
import Derived.Test.YteljecehppeamaaGreatDoorJ06
namespace Go.Fw
open Go.RowKit
set_option linter.unusedVariables false
set_option linter.unusedSimpArgs false
def cfgWs (l : List Int) (k : Nat) : List ByteArray := ⟨#[115, 116, 111, 114, 101]⟩ :: (l.take k).map decB
theorem cfgWs_len {l : List Int} {k : Nat} (h : k ≤ l.length) : (cfgWs l k).length = k + 1 := by simp [cfgWs]; omega
theorem cfgWs_succ {l : List Int} {k : Nat} (h : k < l.length) : cfgWs l (k + 1) = cfgWs l k ++ [decB l[k]] := by
  unfold cfgWs
  rw [List.take_succ_eq_append_getElem h, List.map_append]
  rfl
theorem cfgWs_text (a b c d : Int) : joinS 32 ((cfgWs [a, b, c, d] 4).map (·.data.toList)) = cfgN a b c d := by
  simp [cfgWs, cfgN, textN, joinS, decB_list, storeS]
theorem cfgN_len {a b c d : Int} (h : In64 a ∧ In64 b ∧ In64 c ∧ In64 d) : (cfgN a b c d).length ≤ 200 := by
  have h1 := textN_len (l := [a, b, c, d]) fun x hx => by
    simp at hx
    rcases hx with rfl | rfl | rfl | rfl
    · exact h.1
    · exact h.2.1
    · exact h.2.2.1
    · exact h.2.2.2
  unfold cfgN
  have e : storeS.length = 5 := rfl
  rw [List.length_append, List.length_cons, e]
  simp at h1
  omega
theorem rawN_lines (c : List UInt8) (ps : List (List Cl)) (k : Nat) (l : List (List UInt8)) : rawN (c :: (ps.take k).flatMap progLs ++ l) = rawN (c :: (ps.take k).flatMap progLs) ++ rawN l := rawN_app _ _
theorem take_progs {ps : List (List Cl)} {k : Nat} (h : k < ps.length) : (ps.take (k + 1)).flatMap progLs = (ps.take k).flatMap progLs ++ progLs ps[k] := by
  rw [List.take_succ_eq_append_getElem h, List.flatMap_append]
  simp
/-- what stands in the text so far -/
def atP (c : List UInt8) (ps : List (List Cl)) (k : Nat) : List UInt8 := rawN (c :: (ps.take k).flatMap progLs)
def atC (c : List UInt8) (ps : List (List Cl)) (k : Nat) (p : List Cl) (j : Nat) : List UInt8 := atP c ps k ++ rawN (clientS :: (p.take j).map lineN)
theorem atP_zero (c : List UInt8) (ps : List (List Cl)) : atP c ps 0 = c ++ [10] := by simp [atP, rawN]
theorem atC_zero (c : List UInt8) (ps : List (List Cl)) (k : Nat) (p : List Cl) : atC c ps k p 0 = atP c ps k ++ clientS ++ [10] := by simp [atC, rawN]
theorem atC_succ (c : List UInt8) (ps : List (List Cl)) (k : Nat) {p : List Cl} {j : Nat} (h : j < p.length) : atC c ps k p (j + 1) = atC c ps k p j ++ lineN p[j] ++ [10] := by
  unfold atC
  rw [List.take_succ_eq_append_getElem h, List.map_append, List.map_cons, List.map_nil, ← List.cons_append, rawN_app, rawN_one]
  simp
theorem atC_all (c : List UInt8) {ps : List (List Cl)} {k : Nat} (h : k < ps.length) : atC c ps k ps[k] ps[k].length = atP c ps (k + 1) := by
  unfold atC atP
  rw [take_progs h, List.take_length, ← List.cons_append, rawN_app]
  rfl
theorem raw_at (s : Sc) : rawN s.lines = atP (cfgN s.st s.sa s.lo s.hi) s.ps s.ps.length ++ (wkN s.wk ++ [10]) ++ (if s.pk = [] then [] else pkN s.pk ++ [10]) := by
  unfold Sc.lines atP
  rw [List.take_length, ← List.cons_append, rawN_app, rawN_cons]
  unfold pkLs
  split
  · simp [rawN]
  · simp [rawN]
theorem atP_le (s : Sc) (k : Nat) : (atP (cfgN s.st s.sa s.lo s.hi) s.ps k).length ≤ (rawN s.lines).length := by
  have e : rawN s.lines = atP (cfgN s.st s.sa s.lo s.hi) s.ps k ++ rawN ((s.ps.drop k).flatMap progLs ++ (wkN s.wk :: pkLs s.pk)) := by
    unfold Sc.lines atP
    rw [← rawN_app]
    congr 1
    rw [List.cons_append, ← List.append_assoc, ← List.flatMap_append, List.take_append_drop]
  rw [e, List.length_append]
  omega
theorem atC_le (s : Sc) {k : Nat} (h : k < s.ps.length) (j : Nat) : (atC (cfgN s.st s.sa s.lo s.hi) s.ps k s.ps[k] j).length ≤ (rawN s.lines).length := by
  have e : atP (cfgN s.st s.sa s.lo s.hi) s.ps (k + 1) = atC (cfgN s.st s.sa s.lo s.hi) s.ps k s.ps[k] j ++ rawN ((s.ps[k].drop j).map lineN) := by
    rw [← atC_all _ h]
    unfold atC
    rw [List.append_assoc, ← rawN_app, List.take_length, List.cons_append, ← List.map_append, List.take_append_drop]
  have h2 := atP_le s (k + 1)
  rw [e, List.length_append] at h2
  omega
/-- a script's text, and an error -/
def scText (s : Sc) : ByteArray × Int := if scE s.st s.sa s.lo s.hi s.ps s.wk ≠ 0 then (ByteArray.empty, scE s.st s.sa s.lo s.hi s.ps s.wk) else if 16384 < (rawN s.lines).length then (ByteArray.empty, 12) else (s.raw, 0)
end Go.Fw
namespace Go.Proofs.YteljecehppeamaaGreatDoor
open Go.RowKit Go.Fw Go.Shelf
set_option maxHeartbeats 2000000
set_option maxRecDepth 100000
set_option linter.unusedVariables false
set_option linter.unusedSimpArgs false
theorem config_any (a b c d : Int) (hin : In64 a ∧ In64 b ∧ In64 c ∧ In64 d) (w : World) (hT : Tabs Tryz.prog w) :
    Calls Tryz.prog 20 #[.agg #[.int .i64 a, .int .i64 b, .int .i64 c, .int .i64 d]] w fun e w' => e = .returned (.string ⟨(cfgN a b c d).toArray⟩) ∧ Below w.heap.size w w' := by
  have HG := Lib.hid (Blk.new_at w 23 #[.int .i64 a, .int .i64 b, .int .i64 c, .int .i64 d] (g := w.heap.size) rfl)
  have c0 := HG.out.cell 0
  have c1 := HG.out.cell 1
  have c2 := HG.out.cell 2
  have c3 := HG.out.cell 3
  simp at c0 c1 c2 c3
  obtain ⟨l, hl⟩ : ∃ l : List Int, l = [a, b, c, d] := ⟨_, rfl⟩
  have hll : l.length = 4 := by rw [hl]; rfl
  have hil : ∀ x ∈ l, In64 x := by
    rw [hl]
    intro x hx
    simp at hx
    rcases hx with rfl | rfl | rfl | rfl
    · exact hin.1
    · exact hin.2.1
    · exact hin.2.2.1
    · exact hin.2.2.2
  have HL := Lib.hid hll
  have HI := Lib.hid hil
  have HT := Lib.hid hT
  have hfin : joinS 32 ((cfgWs l 4).map (·.data.toList)) = cfgN a b c d := by rw [hl]; exact cfgWs_text a b c d
  have HF := Lib.hid hfin
  have HFL := Lib.hid (cfgN_len hin)
  have hbl : #[Value.int .i64 a, .int .i64 b, .int .i64 c, .int .i64 d] = iarr l := by rw [hl]; rfl
  have HBL := Lib.hid hbl
  have HW0 : Hid (Below w.heap.size w (w.alloc (.cells #[.int .i64 a, .int .i64 b, .int .i64 c, .int .i64 d] 23))) := Lib.hid (sub_alloc (Below.refl _ _) _)
  clear hl hll hil hT hfin hin hbl
  go_enter Tryz.func20, Tryz.ntmps20
  go_wp2
  simp only [Nat.add_assoc, Nat.reduceAdd]
  obtain ⟨W1, hW1⟩ : ∃ W1, (w.alloc (.cells #[.int .i64 a, .int .i64 b, .int .i64 c, .int .i64 d] 23)) = W1 := ⟨_, rfl⟩
  have hz1 : W1.heap.size = w.heap.size + 1 := by rw [← hW1]; simp
  have hb1 : Below w.heap.size w W1 := by rw [← hW1]; exact HW0.out
  obtain ⟨WA, hWA⟩ : ∃ WA, ((W1.alloc (.cells #[.string ⟨#[115, 116, 111, 114, 101]⟩] 9)).alloc (.cells #[.int .i64 a, .int .i64 b, .int .i64 c, .int .i64 d] 3)) = WA := ⟨_, rfl⟩
  rw [hW1, hWA]
  have hM : MineS 1 w WA 9 (.slice (some ⟨w.heap.size + 1, 0, none⟩) 1 1) 1 (strs (cfgWs l 0)) := by
    have b0 : Blk WA (w.heap.size + 1) 9 #[.string ⟨#[115, 116, 111, 114, 101]⟩] := by rw [← hWA]; exact (Blk.new_at W1 9 _ (by omega)).alloc _
    refine ⟨own_of_blk (n := 1) (s := 1) b0 (by omega) rfl (by simp [maxLen]), ?_⟩
    rw [← hWA]
    exact sub_alloc (sub_alloc hb1 _) _
  have hN : Blk WA (w.heap.size + 2) 3 (iarr l) := by rw [← hWA, HBL.out]; exact Blk.new_at _ 3 _ (by simp; omega)
  have HM := Lib.hid hM
  have HN := Lib.hid hN
  have hzA : WA.heap.size = w.heap.size + 3 := by rw [← hWA]; simp; omega
  have HZ := Lib.hid hzA
  clear hM hN hWA hW1 hb1 hz1 hzA c0 c1 c2 c3 HG HW0
  go_loopw [3, 17] (fun v i wr => ∃ k : Nat, k ≤ 4 ∧ i = .int .i64 k ∧ MineS 1 w wr 9 v (k + 1) (strs (cfgWs l k)) ∧ Blk wr (w.heap.size + 2) 3 (iarr l))
    (fun _ i _ => 4 - (intOf i).toNat)
  case atStart => exact ⟨0, Nat.zero_le _, rfl, HM.out, HN.out⟩
  case round =>
    obtain ⟨k, hk, rfl, hM, hN⟩ := hrel
    obtain ⟨Ao, co, rfl, _, _⟩ := own_form hM.own
    by_cases hlt : k < 4
    · have hkl : k < l.length := by have := HL.out; omega
      have ck := (hN.cell k).trans (iarr_get hkl)
      have HX := Lib.hid (HI.out _ (List.getElem_mem hkl))
      have HS := Lib.hid (cfgWs_succ hkl)
      generalize l[k] = x at *
      have HM := Lib.hid hM
      have HN := Lib.hid hN
      clear hM hN
      go_wp2_with fail
      refine (itoa_any x HX.out _ (HT.out.up HM.out.below)).mono ?_
      rintro e w2 ⟨rfl, hb2⟩
      have hM2 := HM.out.later hb2
      have hN2 := HN.out.later hb2
      clear HM HN ck
      go_wp2_with (at_builtin; go_must (refine wpList_append_oneN (w := w2) (n := k + 1) (xs := strs (cfgWs l k)) elemS (by decide) rfl _ _ rfl rfl hM2.own hM2.le rfl rfl rfl (by simp [Value.oneCell']) (by omega) (by unfold maxLen; omega) ?_); intro v3 w3 hm3 hg3 hv3; refine Hid.out ?_)
      refine Lib.hid ?_
      have hM3 : MineS 1 w w3 9 v3 (k + 1 + 1) (strs (cfgWs l (k + 1))) := by
        rw [HS.out, strs_snoc]
        exact hM2.app hg3 hm3
      have hN3 : Blk w3 (w.heap.size + 2) 3 (iarr l) := hN2.grown hg3 (fun e => own_ne hM2.own hN2 (by decide) e.symm)
      have H3 := Lib.hid (And.intro hM3 hN3)
      clear hM2 hN2 hm3 hg3 hv3 hM3 hN3
      go_wp2
      go_roundw
      case rel => exact ⟨k + 1, by omega, by go_num, H3.out.1, H3.out.2⟩
      case measure => simp [intOf]; omega
    · have hke : k = 4 := by omega
      subst hke
      have HM := Lib.hid hM
      clear hM hN
      go_wp2_with fail
      refine (join_any _ (cfgWs l 4) 5 w _ HM.out (by rw [cfgWs_len (by have := HL.out; omega)]) (by decide) (by rw [HF.out]; have := HFL.out; omega) (by decide)).mono ?_
      rintro e w4 ⟨rfl, hb4⟩
      have hb5 := sub_trans HM.out.below hb4
      rw [HF.out]
      go_wp2
      go_ret
      exact ⟨rfl, hb5⟩
theorem join_own (v : Value) (l : List ByteArray) (n B : Nat) (w : World) (h : w.ownsRow B 9 1 v n (strs l)) (hn : n = l.length) (h0 : 0 < n) (hl : (joinS 32 (l.map (·.data.toList))).length ≤ 100000) (hn2 : n ≤ 100000) :
    Calls Tryz.prog 18 #[v, .string ⟨#[32]⟩] w fun e w' => e = .returned (.string ⟨(joinS 32 (l.map (·.data.toList))).toArray⟩) ∧ Below w.heap.size w w' := by
  obtain ⟨g, c, rfl, hg, hnc, hc⟩ := own_strs h h0
  subst hn
  have e : Lib.join (l.map (·.data.toList)) (⟨#[32]⟩ : ByteArray).data.toList = joinS 32 (l.map (·.data.toList)) := join_joinS 32 _
  have h1 := Any.strings_Join Tryz.ljoin Tryz.xjoin g 0 c l ⟨#[32]⟩ w hc hg (by omega) hnc (by rw [e]; omega)
  change Calls Tryz.prog 18 _ _ _ at h1
  rw [e] at h1
  exact h1
theorem put_any (b : Nat) (L : List UInt8) (l : List ByteArray) (n : Nat) (v : Value) (w : World) (hB : Bld w b L) (B : Nat) (hm : w.ownsRow B 9 1 v n (strs l)) (hBw : B ≤ w.heap.size) (hn : n = l.length) (h0 : 0 < n) (hn2 : n ≤ 100000) (hl : (joinS 32 (l.map (·.data.toList))).length ≤ 100000) (hL : L.length ≤ 9000000) :
    Calls Tryz.prog 16 #[v, .pointer (some ⟨b, 0, none⟩)] w fun e w' => (∃ u, e = .returned u) ∧ Bld w' b (L ++ joinS 32 (l.map (·.data.toList)) ++ [10]) ∧ Below b w w' := by
  have HJ := Lib.hid (join_own v l n B w hm hn h0 hl hn2)
  have HB := Lib.hid hB
  have HJL : Hid ((⟨(joinS 32 (l.map (·.data.toList))).toArray⟩ : ByteArray).size ≤ 100000 ∧ (⟨(joinS 32 (l.map (·.data.toList))).toArray⟩ : ByteArray).data.toList = joinS 32 (l.map (·.data.toList))) := Lib.hid ⟨by show (joinS 32 (l.map (·.data.toList))).toArray.size ≤ _; simpa using hl, by simp⟩
  clear hB hm hl
  generalize joinS 32 (l.map (·.data.toList)) = J at *
  generalize (⟨J.toArray⟩ : ByteArray) = JB at *
  go_enter Tryz.func16, Tryz.ntmps16
  go_wp2_with fail
  refine HJ.out.mono ?_
  rintro e w1 ⟨rfl, hb1⟩
  have HB1 := Lib.hid (HB.out.later hb1)
  have hbw : Below b w w1 := hb1.mono (Nat.le_of_lt HB.out.lt)
  clear hb1 HB
  have HW1 := Lib.hid (bwstr_any b L JB w1 HB1.out (by omega) (by have := HJL.out.1; omega))
  go_wp2_with fail
  refine HW1.out.mono ?_
  rintro e w2 ⟨rfl, h2, hb2⟩
  have HB2 := Lib.hid h2
  have hbw2 := hbw.trans hb2
  clear h2 hb2 hbw HB1
  have HW2 := Lib.hid (bwbyte_any b _ 10 w2 HB2.out (by rw [HJL.out.2, List.length_append]; have h9 := HJL.out.1; have e9 := congrArg List.length HJL.out.2; have e8 : JB.data.toList.length = JB.size := rfl; omega))
  rw [HJL.out.2] at HW2
  go_wp2_with fail
  refine HW2.out.mono ?_
  rintro e w3 ⟨rfl, h3, hb3⟩
  have hbw3 := hbw2.trans hb3
  go_wp2
  go_end0
  exact ⟨⟨_, rfl⟩, h3, hbw3⟩
theorem put1 (b : Nat) (L : List UInt8) (t : ByteArray) (W : World) (hB : Bld W b L) (ht : t.size ≤ 100000) (hL : L.length ≤ 9000000) :
    Calls Tryz.prog 16 #[.slice (some ⟨W.heap.size, 0, none⟩) 1 1, .pointer (some ⟨b, 0, none⟩)] (W.alloc (.cells #[.string t] 9)) fun e w' => (∃ u, e = .returned u) ∧ Bld w' b (L ++ t.data.toList ++ [10]) ∧ Below b W w' := by
  have e : joinS 32 ([t].map (·.data.toList)) = t.data.toList := by simp [joinS]
  have h := put_any b L [t] 1 _ (W.alloc (.cells #[.string t] 9)) (hB.later (sub_alloc (Below.refl _ _) _)) W.heap.size (own_of_blk (n := 1) (s := 1) (Blk.new_at W 9 #[.string t] rfl) (Nat.le_refl _) rfl (by simp [maxLen])) (by simp) rfl (by decide) (by decide) (by rw [e]; have : t.data.toList.length = t.size := rfl; omega) hL
  rw [e] at h
  exact h.mono fun y w' ⟨h1, h2, h3⟩ => ⟨h1, h2, ((Below.refl b W).alloc (by have := hB.lt; omega) _).trans h3⟩
theorem put2 (b : Nat) (L : List UInt8) (t u : ByteArray) (W : World) (hB : Bld W b L) (ht : t.size + u.size ≤ 99999) (hL : L.length ≤ 9000000) :
    Calls Tryz.prog 16 #[.slice (some ⟨W.heap.size, 0, none⟩) 2 2, .pointer (some ⟨b, 0, none⟩)] (W.alloc (.cells #[.string t, .string u] 9)) fun e w' => (∃ u, e = .returned u) ∧ Bld w' b (L ++ (t.data.toList ++ 32 :: u.data.toList) ++ [10]) ∧ Below b W w' := by
  have e : joinS 32 ([t, u].map (·.data.toList)) = t.data.toList ++ 32 :: u.data.toList := by simp [joinS]
  have h := put_any b L [t, u] 2 _ (W.alloc (.cells #[.string t, .string u] 9)) (hB.later (sub_alloc (Below.refl _ _) _)) W.heap.size (own_of_blk (n := 2) (s := 1) (Blk.new_at W 9 #[.string t, .string u] rfl) (Nat.le_refl _) rfl (by simp [maxLen])) (by simp) rfl (by decide) (by decide) (by rw [e, List.length_append, List.length_cons]; have h1 : t.data.toList.length = t.size := rfl; have h2 : u.data.toList.length = u.size := rfl; omega) hL
  rw [e] at h
  exact h.mono fun y w' ⟨h1, h2, h3⟩ => ⟨h1, h2, ((Below.refl b W).alloc (by have := hB.lt; omega) _).trans h3⟩
/-- a script as it lies -/
structure ScAt (w : World) (A A2 : Option Addr) (n c n2 c2 : Nat) (s : Sc) : Prop where
  ps : PrgAt w A n s.ps
  pk : Reads w w.heap.size 1 A2 n2 (i64s s.pk)
  nle : n ≤ 1000000
  pkle : n2 ≤ 100000
theorem ScAt.up {w w' : World} {A A2 : Option Addr} {n c n2 c2 : Nat} {s : Sc} (h : ScAt w A A2 n c n2 c2 s) (hb : Below w.heap.size w w') : ScAt w' A A2 n c n2 c2 s := ⟨h.ps.up hb, h.pk.up hb, h.nle, h.pkle⟩
theorem ScAt.len2 {w : World} {A A2 : Option Addr} {n c n2 c2 : Nat} {s : Sc} (h : ScAt w A A2 n c n2 c2 s) : n2 = s.pk.length := by
  have := h.pk.len
  simp [i64s] at this
  exact this
def scArr (s : Sc) (A A2 : Option Addr) (n c n2 c2 : Nat) : Array Value := #[.int .i64 s.st, .int .i64 s.sa, .int .i64 s.lo, .int .i64 s.hi, .slice A n c, .int .i64 s.wk, .slice A2 n2 c2]
def ScText (s : Sc) (w : World) (x : Ending) (w' : World) : Prop := x = .returned (.tuple #[.string (scText s).1, .int .i64 (scText s).2]) ∧ Below w.heap.size w w'
theorem sctext_bad (s : Sc) (A A2 : Option Addr) (n c n2 c2 : Nat) (w : World) (hA : ScAt w A A2 n c n2 c2 s) (hok : s.ok) (hT : Tabs Tryz.prog w) (he : scE s.st s.sa s.lo s.hi s.ps s.wk ≠ 0) :
    Calls Tryz.prog 7 #[.agg (scArr s A A2 n c n2 c2)] w (ScText s w) := by
  unfold ScText
  have e : scText s = (ByteArray.empty, scE s.st s.sa s.lo s.hi s.ps s.wk) := by unfold scText; rw [if_pos he]
  rw [e]
  have HB := Lib.hid (sub_alloc (Below.refl _ w) (.cells (scArr s A A2 n c n2 c2) 33))
  have HC := Lib.hid (fun W (hb : Below w.heap.size w W) => sccheck_any s.st s.sa s.lo s.hi s.ps A A2 n c n2 c2 s.wk W ((hA.up hb).ps) hA.nle hok.wk (fun p hp x hx => (hok.ps p hp x hx).1) (hT.up hb).pow)
  have HG := Lib.hid (Blk.new_at w 33 (scArr s A A2 n c n2 c2) (g := w.heap.size) rfl)
  clear hA hok hT e
  unfold scArr at *
  have c0 := HG.out.cell 0
  have c1 := HG.out.cell 1
  have c2' := HG.out.cell 2
  have c3 := HG.out.cell 3
  have c4 := HG.out.cell 4
  have c5 := HG.out.cell 5
  have c6 := HG.out.cell 6
  simp only [List.getElem?_toArray, List.getElem?_cons_succ, List.getElem?_cons_zero] at c0 c1 c2' c3 c4 c5 c6
  generalize scE s.st s.sa s.lo s.hi s.ps s.wk = ce at *
  have e1 : (ce == 0) = false := by simpa using he
  have e2 : (ce != 0) = true := by simpa using he
  clear he
  go_enter Tryz.func7, Tryz.ntmps7
  go_wp2_with fail
  refine (HC.out _ HB.out).mono ?_
  rintro y w1 ⟨rfl, hb⟩
  have hb1 := sub_trans HB.out hb
  clear hb c0 c1 c2' c3 c4 c5 c6
  go_wp2
  exact bodyPost_ret (v := .tuple #[.string ByteArray.empty, .int .i64 ce]) (by simp [results, Tryz.results7, go_sem]; try rfl) rfl ⟨rfl, hb1⟩
theorem lineB_eq (x : Cl) : (lineB x).data.toList = lineN x := lineB_list x
theorem sctext_ok (s : Sc) (A A2 : Option Addr) (n c n2 c2 : Nat) (w : World) (hA : ScAt w A A2 n c n2 c2 s) (hok : s.ok) (hT : Tabs Tryz.prog w) (he : scE s.st s.sa s.lo s.hi s.ps s.wk = 0)
    (hraw : (rawN s.lines).length ≤ 8000000) (hln : ∀ p ∈ s.ps, ∀ x ∈ p, (lineN x).length ≤ 100000) (htx : (textN s.pk).length ≤ 90000) :
    Calls Tryz.prog 7 #[.agg (scArr s A A2 n c n2 c2)] w (ScText s w) := by
  unfold ScText
  have HE : Hid (scText s = if 16384 < (rawN s.lines).length then (ByteArray.empty, 12) else (s.raw, 0)) := Lib.hid (by unfold scText; rw [if_neg (by rw [he]; simp)])
  have HB := Lib.hid (sub_alloc (Below.refl _ w) (.cells (scArr s A A2 n c n2 c2) 33))
  have HC := Lib.hid (fun W (hb : Below w.heap.size w W) => sccheck_any s.st s.sa s.lo s.hi s.ps A A2 n c n2 c2 s.wk W ((hA.up hb).ps) hA.nle hok.wk (fun p hp x hx => (hok.ps p hp x hx).1) (hT.up hb).pow)
  rw [he] at HC
  have HA := Lib.hid hA
  have HT := Lib.hid hT
  have HOK := Lib.hid hok
  have HRAW := Lib.hid hraw
  have HLN := Lib.hid hln
  have HTX := Lib.hid htx
  have HTE := Lib.hid (scE_zero he).2
  have HG := Lib.hid (Blk.new_at w 33 (scArr s A A2 n c n2 c2) (g := w.heap.size) rfl)
  clear hA hok hT hraw hln he htx
  unfold scArr at *
  have c0 := HG.out.cell 0
  have c1 := HG.out.cell 1
  have c2' := HG.out.cell 2
  have c3 := HG.out.cell 3
  have c4 := HG.out.cell 4
  have c5 := HG.out.cell 5
  have c6 := HG.out.cell 6
  simp only [List.getElem?_toArray, List.getElem?_cons_succ, List.getElem?_cons_zero] at c0 c1 c2' c3 c4 c5 c6
  go_enter Tryz.func7, Tryz.ntmps7
  go_wp2_with fail
  refine (HC.out _ HB.out).mono ?_
  rintro y w1 ⟨rfl, hb⟩
  have HB1 := Lib.hid (sub_trans HB.out hb)
  have HG1 := Lib.hid (HG.out.later hb)
  clear hb c0 c1 c2' c3 c4 c5 c6 HB HG HC
  have HN0 : Hid (Bld (w1.alloc (.cells #[.pointer none, .slice none 0 0] 54)) w1.heap.size [] ∧ Below w1.heap.size w1 (w1.alloc (.cells #[.pointer none, .slice none 0 0] 54))) := Lib.hid ⟨BAt.new_ _ _ w1 rfl, sub_alloc (Below.refl _ _) _⟩
  have hk : ∀ W, Below w1.heap.size w1 W → W.cell? ⟨w.heap.size, 0, none⟩ = some (.int .i64 s.st) ∧ W.cell? ⟨w.heap.size, 1, none⟩ = some (.int .i64 s.sa) ∧ W.cell? ⟨w.heap.size, 2, none⟩ = some (.int .i64 s.lo) ∧ W.cell? ⟨w.heap.size, 3, none⟩ = some (.int .i64 s.hi) ∧ W.cell? ⟨w.heap.size, 4, none⟩ = some (.slice A n c) ∧ W.cell? ⟨w.heap.size, 5, none⟩ = some (.int .i64 s.wk) ∧ W.cell? ⟨w.heap.size, 6, none⟩ = some (.slice A2 n2 c2) := fun W hW => by
    have g := HG1.out.later hW
    exact ⟨g.cell 0, g.cell 1, g.cell 2, g.cell 3, g.cell 4, g.cell 5, g.cell 6⟩
  have HK := Lib.hid hk
  have hpl := HA.out.ps.len
  have HPL := Lib.hid hpl
  have hpl2 := HA.out.len2
  have HPL2 := Lib.hid hpl2
  have HNLE := Lib.hid HA.out.nle
  have HNLE2 := Lib.hid HA.out.pkle
  have HA1 := Lib.hid (HA.out.up HB1.out)
  have HT1 := Lib.hid (HT.out.up HB1.out)
  clear hk hpl hpl2 HA HT
  obtain ⟨c0, c1, c2', c3, c4, c5, c6⟩ := HK.out _ HN0.out.2
  go_wp2_with fail
  obtain ⟨WA, hWA⟩ : ∃ WA, w1.alloc (.cells #[.pointer none, .slice none 0 0] 54) = WA := ⟨_, rfl⟩
  rw [hWA] at HN0 ⊢
  clear c0 c1 c2' c3 c4 c5 c6 hWA
  generalize hbz : w1.heap.size = b at *
  have HBZ := Lib.hid hbz
  clear hbz
  have HUP : Hid (∀ W, Below b w1 W → Below w1.heap.size w1 W) := Lib.hid (fun W hW => by rw [HBZ.out]; exact hW)
  refine (config_any s.st s.sa s.lo s.hi HOK.out.cfg _ (HT1.out.up (HUP.out _ HN0.out.2))).mono ?_
  rintro y w2 ⟨rfl, hb2⟩
  have hB2 := HN0.out.1.later hb2
  have hbw2 : Below b w1 w2 := HN0.out.2.trans (hb2.mono (by have := HN0.out.1.lt; omega))
  have HCL := Lib.hid (cfgN_len HOK.out.cfg)
  have HCB : Hid ((⟨(cfgN s.st s.sa s.lo s.hi).toArray⟩ : ByteArray).data.toList = cfgN s.st s.sa s.lo s.hi) := Lib.hid (by simp)
  have HCZ : Hid ((⟨(cfgN s.st s.sa s.lo s.hi).toArray⟩ : ByteArray).size ≤ 200) := Lib.hid (by show (cfgN s.st s.sa s.lo s.hi).toArray.size ≤ 200; have := HCL.out; simpa using this)
  have HRL : Hid (∀ k, (atP (cfgN s.st s.sa s.lo s.hi) s.ps k).length ≤ 8000000) := Lib.hid (fun k => Nat.le_trans (atP_le s k) HRAW.out)
  have HRC : Hid (∀ (k : Nat) (h : k < s.ps.length) j, (atC (cfgN s.st s.sa s.lo s.hi) s.ps k s.ps[k] j).length ≤ 8000000) := Lib.hid (fun k h j => Nat.le_trans (atC_le s h j) HRAW.out)
  have HFIN := Lib.hid (raw_at s)
  generalize cfgN s.st s.sa s.lo s.hi = C at *
  generalize (⟨C.toArray⟩ : ByteArray) = CB at *
  have H2 := Lib.hid (And.intro hB2 hbw2)
  clear hB2 hbw2 hb2 HN0 HCL
  go_wp2_with fail
  refine (put1 b [] CB w2 H2.out.1 (by have := HCZ.out; omega) (by decide)).mono ?_
  rintro y w3 ⟨⟨u3, rfl⟩, hB3, hb3⟩
  have hB3' : Bld w3 b (atP C s.ps 0) := by
    rw [atP_zero]
    rw [HCB.out] at hB3
    exact hB3
  have H3 := Lib.hid (And.intro hB3' (H2.out.2.trans hb3))
  clear hB3 hb3 hB3' H2
  obtain ⟨c0, c1, c2', c3, c4, c5, c6⟩ := HK.out _ H3.out.2
  go_wp2
  go_loopw [28] (fun i wr => ∃ (k : Nat), k ≤ n ∧ i = .int .i64 k ∧ Bld wr b (atP C s.ps k) ∧ Below b w1 wr) (fun i _ => n - (intOf i).toNat)
  case atStart => exact ⟨0, by omega, rfl, H3.out.1, H3.out.2⟩
  case round =>
    obtain ⟨k, hk, rfl, hBr, hbr⟩ := hrel
    clear c0 c1 c2' c3 c4 c5 c6
    obtain ⟨c0, c1, c2', c3, c4, c5, c6⟩ := HK.out _ hbr
    by_cases hlt : k < n
    · have hkl : k < s.ps.length := by have := HPL.out; omega
      obtain ⟨ad, A', c', rfl, hadl, hc1, hpc, hcm, hrd⟩ := HA1.out.ps.at_ hkl
      have hc := ((HUP.out _ hbr).cell (p := ad.add k) (by rw [block_of_add]; exact hadl)).trans hc1
      clear hc1
      have HOP : Hid (∀ x ∈ s.ps[k], x.ok) := Lib.hid (fun x hx => (HOK.out.ps _ (List.getElem_mem hkl) x hx).1)
      have HTP : Hid (∀ x ∈ s.ps[k], textE x = 0) := Lib.hid (HTE.out _ (List.getElem_mem hkl))
      have HLP : Hid (∀ x ∈ s.ps[k], (lineN x).length ≤ 100000) := Lib.hid (HLN.out _ (List.getElem_mem hkl))
      have HCP := Lib.hid (fun j => HRC.out k hkl j)
      have HCA : Hid (atC C s.ps k s.ps[k] s.ps[k].length = atP C s.ps (k + 1)) := Lib.hid (atC_all C hkl)
      have HRD := Lib.hid hrd
      unfold maxLen at hcm
      have HBR := Lib.hid (And.intro hBr hbr)
      have HLk := Lib.hid (HRL.out k)
      clear hrd hBr hbr
      generalize s.ps[k] = p at *
      go_wp2_with fail
      refine (put1 b _ ⟨#[99, 108, 105, 101, 110, 116]⟩ wr HBR.out.1 (by decide) (by have := HLk.out; omega)).mono ?_
      rintro y w4 ⟨⟨u4, rfl⟩, hB4, hb4⟩
      have hB4' : Bld w4 b (atC C s.ps k p 0) := by
        rw [atC_zero]
        exact hB4
      have hb4' := HBR.out.2.trans hb4
      have H4 := Lib.hid (And.intro hB4' hb4')
      clear hB4 hb4 hB4' hb4' c0 c1 c2' c3 c4 c5 c6 hc HBR
      go_wp2
      go_loopw [37] (fun i wq => ∃ (j : Nat), j ≤ p.length ∧ i = .int .i64 j ∧ Bld wq b (atC C s.ps k p j) ∧ Below b w1 wq) (fun i _ => p.length - (intOf i).toNat)
      case atStart => exact ⟨0, by omega, rfl, H4.out.1, H4.out.2⟩
      case round =>
        obtain ⟨j, hj, rfl, hBq, hbq⟩ := hrel
        have HBQ := Lib.hid (And.intro hBq hbq)
        clear hBq hbq
        by_cases hjt : j < p.length
        · obtain ⟨bl, off, rfl, _, q0, q1, q2, q3, q4, q5, q6, q7, q8, q9, q10⟩ := cl_at (HRD.out.up (HUP.out _ HBQ.out.2)) hjt
          have hxo := HOP.out _ (List.getElem_mem hjt)
          have hte := HTP.out _ (List.getElem_mem hjt)
          have HXT := Lib.hid (fun W hW => ltext_any p[j] W hW hxo)
          rw [hte, show textB p[j] = lineB p[j] by unfold textB; rw [if_pos hte]] at HXT
          have HCS := Lib.hid (atC_succ C s.ps k hjt)
          have HLX : Hid ((lineB p[j]).data.toList = lineN p[j] ∧ (lineB p[j]).size ≤ 100000) := Lib.hid ⟨lineB_eq _, by have h1 := HLP.out _ (List.getElem_mem hjt); have h2 := congrArg List.length (lineB_eq p[j]); have h3 : (lineB p[j]).data.toList.length = (lineB p[j]).size := rfl; omega⟩
          have HCPj := Lib.hid (HCP.out j)
          clear hxo hte
          generalize lineN p[j] = tn at *
          generalize lineB p[j] = tb at *
          generalize p[j] = x at *
          go_wp2_with fail
          refine (HXT.out _ ((HT1.out.up ((HUP.out _ HBQ.out.2).trans ((sub_alloc (Below.refl _ _) _).mono (HUP.out _ HBQ.out.2).size))).pow)).mono ?_
          rintro y w5 ⟨rfl, hb5⟩
          have hBl5 := (HBQ.out.1.later (sub_alloc (Below.refl _ _) (.cells x.arr 50))).later hb5
          have hbw5 : Below b w1 w5 := (HBQ.out.2.alloc (by have := HBQ.out.1.lt; omega) (.cells x.arr 50)).trans (hb5.mono (by have := HBQ.out.1.lt; simp [Cl.arr]; omega))
          have H5 := Lib.hid (And.intro hBl5 hbw5)
          clear hBl5 hbw5 hb5 q0 q1 q2 q3 q4 q5 q6 q7 q8 q9 q10 HXT
          go_wp2_with fail
          refine (put1 b _ tb w5 H5.out.1 HLX.out.2 (by have := HCPj.out; omega)).mono ?_
          rintro y w6 ⟨⟨u6, rfl⟩, hB6, hb6⟩
          rw [HLX.out.1, ← HCS.out] at hB6
          have H6 := Lib.hid (And.intro hB6 (H5.out.2.trans hb6))
          clear hB6 hb6 H5
          go_wp2
          go_roundw
          case rel => exact ⟨j + 1, by omega, by go_num, H6.out.1, H6.out.2⟩
          case measure => simp [intOf]; omega
        · have hje : j = p.length := by omega
          have hF := HBQ.out.1
          rw [hje, HCA.out] at hF
          have HF := Lib.hid hF
          have hnle := HNLE.out
          clear hF
          go_wp2
          go_roundw
          case rel => exact ⟨k + 1, by omega, by go_num, HF.out, HBQ.out.2⟩
          case measure => simp [intOf]; omega
    · have hke : k = n := by omega
      subst hke
      have hP : atP C s.ps k = atP C s.ps s.ps.length := by rw [← HPL.out]
      rw [hP] at hBr
      have HLP := Lib.hid (HRL.out s.ps.length)
      generalize atP C s.ps s.ps.length = PA at *
      have HBR := Lib.hid (And.intro hBr hbr)
      have HWK : Hid ((decB s.wk).size ≤ 21) := Lib.hid (decB_size HOK.out.wk.1 HOK.out.wk.2)
      have HWT : Hid ((⟨#[119, 111, 114, 107, 101, 114, 115]⟩ : ByteArray).data.toList ++ 32 :: (decB s.wk).data.toList = wkN s.wk) := Lib.hid (by unfold wkN; rw [decB_list]; rfl)
      have HIT := Lib.hid (fun W hW => itoa_any s.wk HOK.out.wk W hW)
      have HWL : Hid ((wkN s.wk).length ≤ 40) := Lib.hid (by unfold wkN; rw [List.length_append, List.length_cons]; have h1 := itoa_l HOK.out.wk; have e : workersS.length = 7 := rfl; omega)
      clear hBr hbr hP H3
      generalize decB s.wk = wb at *
      generalize wkN s.wk = wn at *
      go_wp2_with fail
      refine (HIT.out _ (HT1.out.up (HUP.out _ HBR.out.2))).mono ?_
      rintro y w4 ⟨rfl, hb4⟩
      have hB4 := HBR.out.1.later hb4
      have hbw4 := HBR.out.2.trans (hb4.mono (by have := HBR.out.1.lt; omega))
      have H4 := Lib.hid (And.intro hB4 hbw4)
      clear hB4 hbw4 hb4 HBR HIT c0 c1 c2' c3 c4 c5 c6
      go_wp2_with fail
      refine (put2 b _ ⟨#[119, 111, 114, 107, 101, 114, 115]⟩ wb w4 H4.out.1 (by have h1 := HWK.out; have h2 : (⟨#[119, 111, 114, 107, 101, 114, 115]⟩ : ByteArray).size = 7 := rfl; omega) (by have := HLP.out; omega)).mono ?_
      rintro y w5 ⟨⟨u5, rfl⟩, hB5, hb5⟩
      rw [HWT.out] at hB5
      have H5 := Lib.hid (And.intro hB5 (H4.out.2.trans hb5))
      clear hB5 hb5 H4
      obtain ⟨c0, c1, c2', c3, c4, c5, c6⟩ := HK.out _ H5.out.2
      have hfin : ∀ W Q, Bld W b Q → Below b w1 W → Q = rawN s.lines → Calls Tryz.prog 24 #[.pointer (some ⟨b, 0, none⟩)] W fun e w' => e = .returned (.int .i64 ((rawN s.lines).length : Int)) ∧ w' = W := fun W Q h1 h2 h3 => by
        subst h3
        exact blen_any b _ W h1
      have HFN := Lib.hid hfin
      clear hfin
      by_cases hp0 : n2 = 0
      · have hs0 : s.pk = [] := by have := HPL2.out; rw [hp0] at this; exact List.eq_nil_of_length_eq_zero this.symm
        have hQ : PA ++ wn ++ [10] = rawN s.lines := by rw [HFIN.out, if_pos hs0]; simp
        have hB6 := H5.out.1
        rw [hQ] at hB6
        have HB6 := Lib.hid hB6
        have HFN2 := Lib.hid (HFN.out _ _ HB6.out H5.out.2 rfl)
        have HST := Lib.hid (bstring_any b _ _ HB6.out)
        have HRW : Hid (s.raw = ⟨(rawN s.lines).toArray⟩) := Lib.hid rfl
        have hB7 := H5.out.2
        clear hB6 hQ hs0 HFN
        subst hp0
        generalize hll : (rawN s.lines).length = ll at *
        go_wp2_with fail
        refine HFN2.out.mono ?_
        rintro y w9 ⟨rfl, rfl⟩
        clear c0 c1 c2' c3 c4 c5 c6
        by_cases hlong : 16384 < ll
        · have hE : scText s = (ByteArray.empty, 12) := by rw [HE.out, if_pos hlong]
          have hI : (16384 : Int) < (ll : Int) := by omega
          have HEE := Lib.hid hE
          clear hE hlong
          go_wp2
          exact bodyPost_ret (v := .tuple #[.string ByteArray.empty, .int .i64 12]) (by simp [results, Tryz.results7, go_sem]; try rfl) rfl ⟨by rw [HEE.out], sub_trans HB1.out (HUP.out _ hB7)⟩
        · have hE : scText s = (s.raw, 0) := by rw [HE.out, if_neg hlong]
          have hI : ¬ (16384 : Int) < (ll : Int) := by omega
          have HEE := Lib.hid hE
          clear hE hlong
          go_wp2_with fail
          refine HST.out.mono ?_
          rintro y w10 ⟨rfl, _, hb10⟩
          have hb11 := HUP.out _ (hB7.trans hb10)
          rw [← HRW.out]
          generalize s.raw = R at *
          go_wp2
          exact bodyPost_ret (v := .tuple #[.string R, .int .i64 0]) (by simp [results, Tryz.results7, go_sem]; try rfl) rfl ⟨by rw [HEE.out], sub_trans HB1.out hb11⟩
      · have hs0 : s.pk ≠ [] := fun e => by have := HPL2.out; rw [e] at this; exact hp0 this
        have hp1 : 0 < n2 := by omega
        have hp2 : (0 : Int) < (n2 : Int) := by omega
        have hpk : pkN s.pk = [112, 105, 99, 107, 115] ++ 32 :: textN s.pk := rfl
        have HPT := Lib.hid (fun W (hW : Below w1.heap.size w1 W) => ptext_len s.pk A2 c2 W (HT1.out.up hW) (by rw [← HPL2.out]; exact (HA1.out.up hW).pk) HOK.out.pk (by have := HNLE2.out; have := HPL2.out; omega) (by have := HTX.out; omega))
        rw [← HPL2.out] at HPT
        have HTB : Hid ((Go.Fw.textB s.pk).data.toList = textN s.pk ∧ (Go.Fw.textB s.pk).size ≤ 90000) := Lib.hid ⟨textB_list _, by have h1 := congrArg List.length (textB_list s.pk); have h2 : (Go.Fw.textB s.pk).data.toList.length = (Go.Fw.textB s.pk).size := rfl; have := HTX.out; omega⟩
        have HQ : Hid (PA ++ wn ++ [10] ++ ((⟨#[112, 105, 99, 107, 115]⟩ : ByteArray).data.toList ++ 32 :: textN s.pk) ++ [10] = rawN s.lines) := Lib.hid (by rw [HFIN.out, if_neg hs0, hpk]; simp)
        clear hs0 hp0 hpk
        generalize Go.Fw.textB s.pk = tb at *
        generalize textN s.pk = tn at *
        go_wp2_with fail
        refine (HPT.out _ (HUP.out _ H5.out.2)).mono ?_
        rintro y w6 ⟨rfl, hb6⟩
        have hB6 := H5.out.1.later hb6
        have hbw6 := H5.out.2.trans (hb6.mono (by have := H5.out.1.lt; omega))
        have H6 := Lib.hid (And.intro hB6 hbw6)
        clear hB6 hbw6 hb6 H5 HPT c0 c1 c2' c3 c4 c5 c6
        go_wp2_with fail
        refine (put2 b _ ⟨#[112, 105, 99, 107, 115]⟩ tb w6 H6.out.1 (by have h1 := HTB.out.2; have h2 : (⟨#[112, 105, 99, 107, 115]⟩ : ByteArray).size = 5 := rfl; omega) (by rw [List.length_append, List.length_append]; have h1 := HLP.out; have h2 := HWL.out; simp; omega)).mono ?_
        rintro y w7 ⟨⟨u7, rfl⟩, hB7, hb7⟩
        rw [HTB.out.1, HQ.out] at hB7
        have HB6 := Lib.hid hB7
        have hb8 := H6.out.2.trans hb7
        have HFN2 := Lib.hid (HFN.out _ _ HB6.out hb8 rfl)
        have HST := Lib.hid (bstring_any b _ _ HB6.out)
        have HRW : Hid (s.raw = ⟨(rawN s.lines).toArray⟩) := Lib.hid rfl
        clear hB7 HFN HQ
        have hB7 := hb8
        generalize hll : (rawN s.lines).length = ll at *
        clear hb8 hb7 H6
        go_wp2_with fail
        refine HFN2.out.mono ?_
        rintro y w9 ⟨rfl, rfl⟩
        by_cases hlong : 16384 < ll
        · have hE : scText s = (ByteArray.empty, 12) := by rw [HE.out, if_pos hlong]
          have hI : (16384 : Int) < (ll : Int) := by omega
          have HEE := Lib.hid hE
          clear hE hlong
          go_wp2
          exact bodyPost_ret (v := .tuple #[.string ByteArray.empty, .int .i64 12]) (by simp [results, Tryz.results7, go_sem]; try rfl) rfl ⟨by rw [HEE.out], sub_trans HB1.out (HUP.out _ hB7)⟩
        · have hE : scText s = (s.raw, 0) := by rw [HE.out, if_neg hlong]
          have hI : ¬ (16384 : Int) < (ll : Int) := by omega
          have HEE := Lib.hid hE
          clear hE hlong
          go_wp2_with fail
          refine HST.out.mono ?_
          rintro y w10 ⟨rfl, _, hb10⟩
          have hb11 := HUP.out _ (hB7.trans hb10)
          rw [← HRW.out]
          generalize s.raw = R at *
          go_wp2
          exact bodyPost_ret (v := .tuple #[.string R, .int .i64 0]) (by simp [results, Tryz.results7, go_sem]; try rfl) rfl ⟨by rw [HEE.out], sub_trans HB1.out hb11⟩
theorem sctext_any (s : Sc) (A A2 : Option Addr) (n c n2 c2 : Nat) (w : World) (hA : ScAt w A A2 n c n2 c2 s) (hok : s.ok) (hT : Tabs Tryz.prog w)
    (hraw : scE s.st s.sa s.lo s.hi s.ps s.wk = 0 → (rawN s.lines).length ≤ 8000000 ∧ (∀ p ∈ s.ps, ∀ x ∈ p, (lineN x).length ≤ 100000)) (htx : (textN s.pk).length ≤ 90000) :
    Calls Tryz.prog 7 #[.agg (scArr s A A2 n c n2 c2)] w (ScText s w) := by
  by_cases he : scE s.st s.sa s.lo s.hi s.ps s.wk = 0
  · exact sctext_ok s A A2 n c n2 c2 w hA hok hT he (hraw he).1 (hraw he).2 htx
  · exact sctext_bad s A A2 n c n2 c2 w hA hok hT he
end Go.Proofs.YteljecehppeamaaGreatDoor
