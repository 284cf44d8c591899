/-
  shape.Parse, walked (chapter 54). Conditions: strconv's table and errors lie in memory, and a number in internal/bytealg.MaxLen; texts of few bytes.
-/
import Derived.Test.YtcmnlnnhebdblaaDoorShTextW
import Derived.Test.YtcmnlnnhebdblaaDoorStrconvP
namespace Go.Fw
open Go.RowKit
set_option linter.unusedVariables false
set_option linter.unusedSimpArgs false
/-- four cells: the numbers so far, zeros behind them -/
def num4 (vs : List Int) : Array Value := ((vs ++ List.replicate (4 - vs.length) 0).map (Value.int .i64)).toArray
theorem num4_get {vs : List Int} {k : Nat} (hk : vs.length = k) (h6 : k < 4) : (num4 vs)[k]? = some (.int .i64 0) := by
  unfold num4
  obtain ⟨m, hm⟩ : ∃ m, 4 - k = m + 1 := ⟨3 - k, by omega⟩
  rw [hk, hm, List.replicate_succ]
  simp [hk]
theorem num4_set {vs : List Int} {k : Nat} (v : Int) (hk : vs.length = k) (h6 : k < 4) : (num4 vs).setIfInBounds k (.int .i64 v) = num4 (vs ++ [v]) := by
  unfold num4
  obtain ⟨m, hm⟩ : ∃ m, 4 - k = m + 1 := ⟨3 - k, by omega⟩
  have e2 : 4 - (vs ++ [v]).length = m := by simp; omega
  rw [e2, hk, hm, List.replicate_succ, List.setIfInBounds_toArray, ← List.map_set]
  congr 2
  rw [List.set_append]
  simp [hk]
def set5 (W : World) (b : Nat) (v0 v1 v2 v3 v4 : Value) : World :=
  ((((W.setCell ⟨b, 0, none⟩ v0).setCell ⟨b, 1, none⟩ v1).setCell ⟨b, 2, none⟩ v2).setCell ⟨b, 3, none⟩ v3).setCell ⟨b, 4, none⟩ v4
theorem set5_blk {W : World} {b : Nat} {t : TypeId} {u0 u1 u2 u3 u4 : Value} (h : Blk W b t #[u0, u1, u2, u3, u4]) (v0 v1 v2 v3 v4 : Value) : Blk (set5 W b v0 v1 v2 v3 v4) b t #[v0, v1, v2, v3, v4] := by
  have := ((((h.set_ 0 v0).set_ 1 v1).set_ 2 v2).set_ 3 v3).set_ 4 v4
  simpa [set5] using this
theorem set5_below {w W : World} {b B : Nat} (h : Below B w W) (hb : B ≤ b) (v0 v1 v2 v3 v4 : Value) : Below B w (set5 W b v0 v1 v2 v3 v4) :=
  ((((h.setCell (p := ⟨b, 0, none⟩) hb v0).setCell (p := ⟨b, 1, none⟩) hb v1).setCell (p := ⟨b, 2, none⟩) hb v2).setCell (p := ⟨b, 3, none⟩) hb v3).setCell (p := ⟨b, 4, none⟩) hb v4
theorem toList_neB {a b : ByteArray} (h : ¬ a = b) : (a.toList == b.toList) = false := by
  rw [beq_eq_false_iff_ne]
  intro e
  rw [ByteArray.toList_eq, ByteArray.toList_eq] at e
  exact h (Go.WideShapes.bytes_inj e)
theorem kw_cell (i : Nat) (h : i < 6) : (#[.string ⟨#[]⟩, .string ⟨#[102, 108, 97, 116]⟩, .string ⟨#[115, 97, 119]⟩, .string ⟨#[115, 116, 101, 112]⟩, .string ⟨#[112, 117, 108, 115, 101]⟩, .string ⟨#[112, 101, 97, 107]⟩] : Array Value)[i]? = some (.string (kwB i)) := by
  have hor : i = 0 ∨ i = 1 ∨ i = 2 ∨ i = 3 ∨ i = 4 ∨ i = 5 := by omega
  rcases hor with rfl | rfl | rfl | rfl | rfl | rfl <;> rfl
end Go.Fw
namespace Go.Proofs.YtcmnlnnhebdblaaDoor
open Go.RowKit Go.Fw Go.Shelf
set_option maxHeartbeats 2000000
set_option maxRecDepth 100000
set_option linter.unusedVariables false
set_option linter.unusedSimpArgs false
/-- what Parse tells -/
def ShPost (s : ByteArray) (w : World) (x : Ending) (w' : World) : Prop :=
  Below w.heap.size w w' ∧ ((∃ k lo hi p ph, In5 k lo hi p ph ∧ errS k lo hi p = 0 ∧ shB k lo hi p ph = s ∧ x = .returned (.tuple #[.agg #[.int .i64 k, .int .i64 lo, .int .i64 hi, .int .i64 p, .int .i64 ph], .int .i64 0])) ∨
    (NoShape s ∧ x = .returned (.tuple #[.agg #[.int .i64 0, .int .i64 0, .int .i64 0, .int .i64 0, .int .i64 0], .int .i64 10])))
theorem shparse_len (s : ByteArray) (hs : s.size ≤ 1000) (w : World) (hR : Ready w) (hl : (wordsB 32 s).length ≠ 5) :
    Calls Tryd.prog 8 #[.string s] w (ShPost s w) := by
  have HNO := Lib.hid (noShape_len hl)
  have hlb := wordsB_len 32 s
  have hlI : (((wordsB 32 s).length : Int) != 5) = true := by
    rw [bne_iff_ne]
    omega
  have HS := Lib.hid (fun W hM => split_any 32 s (by omega) W hM)
  have HR := Lib.hid hR
  clear hR
  generalize wordsB 32 s = L at *
  go_enter Tryd.func8, Tryd.ntmps8
  have h1 := sub_alloc (Below.refl w.heap.size w) (.cells #[.int .i64 0, .int .i64 0, .int .i64 0, .int .i64 0, .int .i64 0] 28)
  have H1 := Lib.hid h1
  clear h1
  go_wp2_with fail
  refine (HS.out _ (HR.out.up H1.out).max).mono ?_
  rintro x w1 ⟨rfl, rfl⟩
  go_wp2
  have hb := sub_alloc H1.out (.cells (L.map Value.string).toArray 9)
  exact bodyPost_ret (v := .tuple #[.agg #[.int .i64 0, .int .i64 0, .int .i64 0, .int .i64 0, .int .i64 0], .int .i64 10]) (by simp [results, Tryd.results8, go_sem]) rfl ⟨hb, .inr ⟨HNO.out, rfl⟩⟩
theorem shparse_some (s : ByteArray) (hs : s.size ≤ 1000) (w : World) (hR : Ready w) (hl : (wordsB 32 s).length = 5) :
    Calls Tryd.prog 8 #[.string s] w (ShPost s w) := by
  have HS := Lib.hid (fun W hM => split_any 32 s (by omega) W hM)
  have HR := Lib.hid hR
  have HSZ : Hid (∀ k, k < 5 → ((wordsB 32 s).getD k ByteArray.empty).size ≤ 1000) := Lib.hid fun k hk => by
    rw [List.getD_eq_getElem?_getD, List.getElem?_eq_getElem (by omega)]
    have := wordsB_sizes (List.getElem_mem (l := wordsB 32 s) (n := k) (by omega))
    simp only [Option.getD_some]
    omega
  have HRO : Hid (∀ k vs, Read4 s k vs → vs.length = k) := Lib.hid fun k vs h => h.1
  have HNN : Hid (∀ k, k < 4 → (∀ v, Lib.atoiAll ((wordsB 32 s).getD (k + 1) ByteArray.empty).data.toList ≠ .ok v) → NoShape s) := Lib.hid fun k hk h => noShape_num hk h
  have HRS : Hid (∀ k vs v, Read4 s k vs → Lib.atoiAll ((wordsB 32 s).getD (k + 1) ByteArray.empty).data.toList = .ok v → Read4 s (k + 1) (vs ++ [v])) := Lib.hid fun k vs v h hv => h.snoc hv
  have HR4 : Hid (∀ vs, Read4 s 4 vs → _) := Lib.hid fun vs (h : Read4 s 4 vs) => h.four
  clear hR
  generalize wordsB 32 s = L at *
  rw [hl] at HS
  have HL := Lib.hid hl
  clear hl
  go_enter Tryd.func8, Tryd.ntmps8
  have h1 := sub_alloc (Below.refl w.heap.size w) (.cells #[.int .i64 0, .int .i64 0, .int .i64 0, .int .i64 0, .int .i64 0] 28)
  have H1 := Lib.hid h1
  clear h1
  go_wp2_with fail
  refine (HS.out _ (HR.out.up H1.out).max).mono ?_
  rintro x w1 ⟨rfl, rfl⟩
  go_wp2_with fail
  simp only [Nat.add_assoc, Nat.reduceAdd]
  refine (swords_any _).mono ?_
  rintro x WA ⟨rfl, hb⟩
  have hsz : w.heap.size + 3 ≤ WA.heap.size := by have := hb.size; simp at this; omega
  have b0 : Blk WA w.heap.size 28 #[.int .i64 0, .int .i64 0, .int .i64 0, .int .i64 0, .int .i64 0] := (((Blk.new_at w 28 #[.int .i64 0, .int .i64 0, .int .i64 0, .int .i64 0, .int .i64 0] rfl).alloc _).alloc _).later hb
  have b1 : Blk WA (w.heap.size + 1) 9 (L.map Value.string).toArray := ((Blk.new_at _ 9 _ (by simp)).alloc _).later hb
  have b2 : Blk WA (w.heap.size + 2) 28 #[.int .i64 0, .int .i64 0, .int .i64 0, .int .i64 0, .int .i64 0] := (Blk.new_at _ 28 _ (by simp)).later hb
  have hbA : Below w.heap.size w WA := sub_trans (sub_alloc (sub_alloc H1.out _) _) hb
  have hx0 : WA.cell? ⟨w.heap.size + 1, 0, none⟩ = some (.string (L.getD 0 ByteArray.empty)) := by
    rw [b1.cell 0]
    simp [List.getD_eq_getElem?_getD, List.getElem?_eq_getElem (show 0 < L.length by have := HL.out; omega)]
  have HB := Lib.hid (And.intro b0 (And.intro b1 (And.intro b2 (And.intro hbA (And.intro hsz hx0)))))
  clear hb b0 b1 b2 hbA hsz hx0
  generalize L.getD 0 ByteArray.empty = x0 at *
  go_wp2
  go_loopw [21] (fun i wr => ∃ k : Nat, k ≤ 6 ∧ i = .int .i64 k ∧ Blk wr (w.heap.size + 2) 28 #[.int .i64 (kindUp x0 k : Nat), .int .i64 0, .int .i64 0, .int .i64 0, .int .i64 0] ∧ Below (w.heap.size + 2) WA wr)
    (fun i _ => 6 - (intOf i).toNat)
  case atStart => exact ⟨0, Nat.zero_le _, rfl, HB.out.2.2.1, Below.refl _ _⟩
  case round =>
    obtain ⟨k, hk, rfl, hA, hbW⟩ := hrel
    by_cases hlt : k < 6
    · have hix := fun W => idx_kw #[.string ⟨#[]⟩, .string ⟨#[102, 108, 97, 116]⟩, .string ⟨#[115, 97, 119]⟩, .string ⟨#[115, 116, 101, 112]⟩, .string ⟨#[112, 117, 108, 115, 101]⟩, .string ⟨#[112, 101, 97, 107]⟩] (.string (kwB k)) k W hlt (kw_cell k hlt)
      have hw0 : Below w.heap.size w wr := HB.out.2.2.2.1.trans (hbW.mono (by omega))
      have hc0 : wr.cell? ⟨w.heap.size + 1, 0, none⟩ = some (.string x0) := (World.cell?_of_block (hbW.block _ (by show w.heap.size + 1 < w.heap.size + 2; omega))).trans HB.out.2.2.2.2.2
      have ck := hA.cell 0
      have fk := hA.frozen
      simp at ck
      have HA := Lib.hid (And.intro hA (And.intro hbW hlt))
      clear hA
      by_cases h0 : k = 0
      · have h0I : ¬ 0 < (k : Int) := by omega
        have hku : kindUp x0 (k + 1) = kindUp x0 k := if_neg (fun h => by omega)
        have HKU := Lib.hid hku
        clear hku h0
        generalize kwB k = q at *
        go_wp2
        go_roundw
        case rel => exact ⟨k + 1, by omega, by go_num, by rw [HKU.out]; exact HA.out.1, HA.out.2.1⟩
        case measure => simp [intOf]; omega
      · have h0I : 0 < (k : Int) := by omega
        by_cases he : kwB k = x0
        · have hku : kindUp x0 (k + 1) = k := if_pos ⟨by omega, he⟩
          have hq : ((kwB k).toList == x0.toList) = true := by rw [he]; simp
          have HKU := Lib.hid hku
          clear hku he
          generalize kwB k = q at *
          have hA2 := HA.out.1.set_ 0 (.int .i64 (k : Int))
          have hB2 := HA.out.2.1.setCell (p := ⟨w.heap.size + 2, 0, none⟩) (Nat.le_refl _) (.int .i64 (k : Int))
          simp at hA2
          have HF := Lib.hid (And.intro hA2 hB2)
          clear hA2 hB2
          go_wp2
          go_roundw
          case rel => exact ⟨k + 1, by omega, by go_num, by rw [HKU.out]; exact HF.out.1, HF.out.2⟩
          case measure => simp [intOf]; omega
        · have hku : kindUp x0 (k + 1) = kindUp x0 k := if_neg (fun h => he h.2)
          have hq := toList_neB he
          have HKU := Lib.hid hku
          clear hku he
          generalize kwB k = q at *
          go_wp2
          go_roundw
          case rel => exact ⟨k + 1, by omega, by go_num, by rw [HKU.out]; exact HA.out.1, HA.out.2.1⟩
          case measure => simp [intOf]; omega
    · have hk6 : k = 6 := by omega
      rw [hk6] at hA
      have hltI : ¬ (k : Int) < 6 := by omega
      have hkle := kindUp_le x0 6 (Nat.le_refl _)
      have HKL := Lib.hid hkle
      clear hkle
      generalize kindUp x0 6 = kd at *
      obtain ⟨b3, hb3⟩ : ∃ b3, b3 = wr.heap.size := ⟨_, rfl⟩
      have hw0 : Below w.heap.size w wr := HB.out.2.2.2.1.trans (hbW.mono (by omega))
      have hb39 : w.heap.size + 3 ≤ b3 := by have := hbW.size; have := HB.out.2.2.2.2.1; omega
      obtain ⟨WC, hWC⟩ : ∃ WC, wr.alloc (.cells #[.int .i64 0, .int .i64 0, .int .i64 0, .int .i64 0] 56) = WC := ⟨_, rfl⟩
      have d0 : Blk WC w.heap.size 28 #[.int .i64 0, .int .i64 0, .int .i64 0, .int .i64 0, .int .i64 0] := by rw [← hWC]; exact Blk.alloc ((hbW.block _ (by omega)).trans HB.out.1) _
      have d1 : Blk WC (w.heap.size + 1) 9 (L.map Value.string).toArray := by rw [← hWC]; exact Blk.alloc ((hbW.block _ (by omega)).trans HB.out.2.1) _
      have d2 : Blk WC (w.heap.size + 2) 28 #[.int .i64 kd, .int .i64 0, .int .i64 0, .int .i64 0, .int .i64 0] := by rw [← hWC]; exact hA.alloc _
      have d3 : Blk WC b3 56 #[.int .i64 0, .int .i64 0, .int .i64 0, .int .i64 0] := by rw [← hWC]; exact Blk.new_at _ _ _ hb3
      have dW : Below w.heap.size w WC := by rw [← hWC]; exact sub_alloc hw0 _
      have HD := Lib.hid (And.intro d0 (And.intro d1 (And.intro d2 (And.intro d3 (And.intro dW hb39)))))
      go_wp2
      try rw [hWC]
      rw [← hb3]
      clear d0 d1 d2 d3 dW hWC hb3 hA hbW hw0 hb39 hk6 hk hlt hltI
      go_loopw [37] (fun i wr => ∃ (k : Nat) (vs : List Int), k ≤ 4 ∧ i = .int .i64 k ∧ Read4 s k vs ∧ Blk wr b3 56 (num4 vs) ∧ Below b3 WC wr)
        (fun i _ => 4 - (intOf i).toNat)
      case atStart => exact ⟨0, [], Nat.zero_le _, rfl, Read4.nil_ s, HD.out.2.2.2.1, Below.refl _ _⟩
      case round =>
        obtain ⟨k, vs, hk, rfl, hRK, hA, hbW⟩ := hrel
        have hb39 := HD.out.2.2.2.2.2
        by_cases hlt : k < 4
        · have hvl := HRO.out k vs hRK
          have hz9 : Blk wr w.heap.size 28 #[.int .i64 0, .int .i64 0, .int .i64 0, .int .i64 0, .int .i64 0] := (hbW.block _ (by omega)).trans HD.out.1
          have hb1 : Blk wr (w.heap.size + 1) 9 (L.map Value.string).toArray := (hbW.block _ (by omega)).trans HD.out.2.1
          have hkl : k + 1 < L.length := by rw [HL.out]; omega
          have hc1 : wr.cell? ⟨w.heap.size + 1, k + 1, none⟩ = some (.string (L.getD (k + 1) ByteArray.empty)) := by
            rw [hb1.cell]
            simp [List.getD_eq_getElem?_getD, List.getElem?_eq_getElem hkl]
          have hwA : Below w.heap.size w wr := HD.out.2.2.2.2.1.trans (hbW.mono (by omega))
          have HA := Lib.hid (And.intro hRK (And.intro hA (And.intro hbW (And.intro hz9 hwA))))
          have HN1 := Lib.hid (fun h => HNN.out k hlt h)
          have HRV := Lib.hid (fun v h => HRS.out k vs v hRK h)
          have HZ1 := Lib.hid (HSZ.out (k + 1) (by omega))
          clear hRK hA hz9 hb1 hbW hwA HNN HRS HSZ
          generalize L.getD (k + 1) ByteArray.empty = x1 at *
          have hw1 : IntKind.i64.wrap ((k : Int) + 1) = (k : Int) + 1 := IntWalk.i64_in _ ⟨by omega, by omega⟩
          have hn1 : ((k : Int) + 1).toNat = k + 1 := by omega
          have hltI : (k : Int) < 4 := by omega
          have HPI := Lib.hid (pint_any x1 (by have := HZ1.out; omega) wr (HR.out.up HA.out.2.2.2.2).tabs)
          go_wp2_with fail
          refine HPI.out.mono ?_
          rintro x w2 ⟨n, ok, ⟨ev, rfl, hev⟩, hrd, hb2⟩
          have HRD := Lib.hid (And.intro hrd hb2)
          clear hc1 hrd hb2 HPI
          rcases hev with ⟨rfl, rfl⟩ | ⟨rfl, te, pe, rfl⟩
          · have HAT := Lib.hid (HRD.out.1.2.1 rfl)
            have hA3 := HA.out.2.1.later HRD.out.2
            have ck : w2.cell? ⟨b3, k, none⟩ = some (.int .i64 0) := (hA3.cell k).trans (num4_get hvl hlt)
            have fk := hA3.frozen
            have hA4 := hA3.set_ k (.int .i64 n)
            rw [num4_set n hvl hlt] at hA4
            have hb4 := (HA.out.2.2.1.trans (HRD.out.2.mono (by have := HA.out.2.1.lt; omega))).setCell (p := ⟨b3, k, none⟩) (Nat.le_refl _) (.int .i64 n)
            have HF := Lib.hid (And.intro hA4 hb4)
            clear hA3 hA4 hb4
            go_wp2
            go_roundw
            case rel => exact ⟨k + 1, vs ++ [n], by omega, by go_num, HRV.out n HAT.out, HF.out.1, HF.out.2⟩
            case measure => simp [intOf]; omega
          · have HNO := Lib.hid (HN1.out (HRD.out.1.2.2 rfl))
            have hz := HA.out.2.2.2.1.later HRD.out.2
            have hzz := set5_blk hz (.int .i64 0) (.int .i64 0) (.int .i64 0) (.int .i64 0) (.int .i64 0)
            have hzb := set5_below (sub_trans HA.out.2.2.2.2 HRD.out.2) (Nat.le_refl _) (.int .i64 0) (.int .i64 0) (.int .i64 0) (.int .i64 0) (.int .i64 0)
            have r0 := hz.cell 0
            have r1 := hz.cell 1
            have r2 := hz.cell 2
            have r3 := hz.cell 3
            have r4 := hz.cell 4
            have rf := hz.frozen
            simp at r0 r1 r2 r3 r4
            have HZ := Lib.hid (And.intro hzz hzb)
            clear hz hzz hzb
            go_wp2
            have z0 := HZ.out.1.cell 0
            have z1 := HZ.out.1.cell 1
            have z2 := HZ.out.1.cell 2
            have z3 := HZ.out.1.cell 3
            have z4 := HZ.out.1.cell 4
            unfold set5 at z0 z1 z2 z3 z4
            simp at z0 z1 z2 z3 z4
            exact bodyPost_ret (v := .tuple #[.agg #[.int .i64 0, .int .i64 0, .int .i64 0, .int .i64 0, .int .i64 0], .int .i64 10]) (by simp [results, Tryd.results8, go_sem, z0, z1, z2, z3, z4]) rfl ⟨HZ.out.2, .inr ⟨HNO.out, rfl⟩⟩
        · obtain rfl : k = 4 := by omega
          obtain ⟨a, b, c, d, rfl, ia, ib, ic, id_, hno⟩ := HR4.out vs hRK
          have hA : Blk wr b3 56 #[.int .i64 a, .int .i64 b, .int .i64 c, .int .i64 d] := hA
          have e0 : Blk wr w.heap.size 28 #[.int .i64 0, .int .i64 0, .int .i64 0, .int .i64 0, .int .i64 0] := (hbW.block _ (by omega)).trans HD.out.1
          have e2 : Blk wr (w.heap.size + 2) 28 #[.int .i64 kd, .int .i64 0, .int .i64 0, .int .i64 0, .int .i64 0] := (hbW.block _ (by omega)).trans HD.out.2.2.1
          have eW : Below w.heap.size w wr := HD.out.2.2.2.2.1.trans (hbW.mono (by omega))
          have HNO := Lib.hid hno
          have H5 : Hid (In5 kd a b c d) := Lib.hid ⟨by have := HKL.out; unfold In64; omega, ia, ib, ic, id_⟩
          have hb32 : b3 ≠ w.heap.size + 2 := by omega
          have hb30 : w.heap.size ≠ w.heap.size + 2 := by omega
          clear hbW hno ia ib ic id_ hRK
          go_wp2
          have hS0 : Blk wr.drew b3 56 #[.int .i64 a, .int .i64 b, .int .i64 c, .int .i64 d] ∧ Blk wr.drew w.heap.size 28 #[.int .i64 0, .int .i64 0, .int .i64 0, .int .i64 0, .int .i64 0] ∧ Below w.heap.size w wr.drew := ⟨hA.drew, e0.drew, eW.drew⟩
          have e20 : Blk wr.drew (w.heap.size + 2) 28 #[.int .i64 kd, .int .i64 0, .int .i64 0, .int .i64 0, .int .i64 0] := e2.drew
          clear hA e0 eW e2
          refine any_start (S := fun W => Blk W b3 56 #[.int .i64 a, .int .i64 b, .int .i64 c, .int .i64 d] ∧ Blk W w.heap.size 28 #[.int .i64 0, .int .i64 0, .int .i64 0, .int .i64 0, .int .i64 0] ∧ Below w.heap.size w W) (by kernel_rfl) hS0 ?_
          generalize wr.drew = V0 at *
          simp only [List.length_cons, List.length_nil, Nat.reduceAdd, List.size_toArray]
          refine any_pure 0 (v := ?_) rfl (by kernel_rfl) (by intro _ _ _ h; exact h) (by assumption) (by rfl) (fun W hW => ?_) ?_
          rotate_left
          · first | (go_simp; done) | (go_simp; with_reducible rfl)
          try simp only [Act.put, List.setIfInBounds_toArray, List.set_cons_zero, List.set_cons_succ]
          refine any_pure 1 (v := ?_) rfl (by kernel_rfl) (by intro _ _ _ h; exact h) (by assumption) (by rfl) (fun W hW => ?_) ?_
          rotate_left
          · have c0 := hW.1.cell 0; simp at c0; first | (go_simp; done) | (go_simp; with_reducible rfl)
          try simp only [Act.put, List.setIfInBounds_toArray, List.set_cons_zero, List.set_cons_succ]
          refine any_pure 2 (v := ?_) rfl (by kernel_rfl) (by intro _ _ _ h; exact h) (by assumption) (by rfl) (fun W hW => ?_) ?_
          rotate_left
          · first | (go_simp; done) | (go_simp; with_reducible rfl)
          try simp only [Act.put, List.setIfInBounds_toArray, List.set_cons_zero, List.set_cons_succ]
          refine any_pure 3 (v := ?_) rfl (by kernel_rfl) (by intro _ _ _ h; exact h) (by assumption) (by rfl) (fun W hW => ?_) ?_
          rotate_left
          · have c0 := hW.1.cell 1; simp at c0; first | (go_simp; done) | (go_simp; with_reducible rfl)
          try simp only [Act.put, List.setIfInBounds_toArray, List.set_cons_zero, List.set_cons_succ]
          refine any_pure 4 (v := ?_) rfl (by kernel_rfl) (by intro _ _ _ h; exact h) (by assumption) (by rfl) (fun W hW => ?_) ?_
          rotate_left
          · first | (go_simp; done) | (go_simp; with_reducible rfl)
          try simp only [Act.put, List.setIfInBounds_toArray, List.set_cons_zero, List.set_cons_succ]
          refine any_pure 5 (v := ?_) rfl (by kernel_rfl) (by intro _ _ _ h; exact h) (by assumption) (by rfl) (fun W hW => ?_) ?_
          rotate_left
          · have c0 := hW.1.cell 2; simp at c0; first | (go_simp; done) | (go_simp; with_reducible rfl)
          try simp only [Act.put, List.setIfInBounds_toArray, List.set_cons_zero, List.set_cons_succ]
          refine any_pure 6 (v := ?_) rfl (by kernel_rfl) (by intro _ _ _ h; exact h) (by assumption) (by rfl) (fun W hW => ?_) ?_
          rotate_left
          · first | (go_simp; done) | (go_simp; with_reducible rfl)
          try simp only [Act.put, List.setIfInBounds_toArray, List.set_cons_zero, List.set_cons_succ]
          refine any_pure 7 (v := ?_) rfl (by kernel_rfl) (by intro _ _ _ h; exact h) (by assumption) (by rfl) (fun W hW => ?_) ?_
          rotate_left
          · have c0 := hW.1.cell 3; simp at c0; first | (go_simp; done) | (go_simp; with_reducible rfl)
          try simp only [Act.put, List.setIfInBounds_toArray, List.set_cons_zero, List.set_cons_succ]
          refine any_pure 8 (v := ?_) rfl (by kernel_rfl) (by intro _ _ _ h; exact h) (by assumption) (by rfl) (fun W hW => ?_) ?_
          rotate_left
          · first | (go_simp; done) | (go_simp; with_reducible rfl)
          try simp only [Act.put, List.setIfInBounds_toArray, List.set_cons_zero, List.set_cons_succ]
          refine any_one 9 (by kernel_rfl) rfl (by rfl) (fun K hK => ?_)
          have ff := e20.frozen
          have cc := e20.cell 1
          simp at cc
          go_simp
          have hS1 : Blk _ b3 56 #[.int .i64 a, .int .i64 b, .int .i64 c, .int .i64 d] ∧ Blk _ w.heap.size 28 #[.int .i64 0, .int .i64 0, .int .i64 0, .int .i64 0, .int .i64 0] ∧ Below w.heap.size w _ := ⟨hS0.1.far (p := ⟨w.heap.size + 2, 1, none⟩) (by show b3 ≠ w.heap.size + 2; omega) (.int .i64 a), hS0.2.1.far (p := ⟨w.heap.size + 2, 1, none⟩) (by show w.heap.size ≠ w.heap.size + 2; omega) (.int .i64 a), hS0.2.2.setCell (p := ⟨w.heap.size + 2, 1, none⟩) (by show w.heap.size ≤ w.heap.size + 2; omega) (.int .i64 a)⟩
          have e21 := e20.set_ 1 (.int .i64 a)
          simp at e21
          refine hK _ _ hS1 ?_
          clear hK ff cc
          try simp only [Act.put, List.setIfInBounds_toArray, List.set_cons_zero, List.set_cons_succ]
          refine any_pure 10 (v := ?_) rfl (by kernel_rfl) (by intro _ _ _ h; exact h) (by assumption) (by rfl) (fun W hW => ?_) ?_
          rotate_left
          · first | (go_simp; done) | (go_simp; with_reducible rfl)
          try simp only [Act.put, List.setIfInBounds_toArray, List.set_cons_zero, List.set_cons_succ]
          refine any_one 11 (by kernel_rfl) rfl (by rfl) (fun K hK => ?_)
          have ff := e21.frozen
          have cc := e21.cell 2
          simp at cc
          go_simp
          have hS2 : Blk _ b3 56 #[.int .i64 a, .int .i64 b, .int .i64 c, .int .i64 d] ∧ Blk _ w.heap.size 28 #[.int .i64 0, .int .i64 0, .int .i64 0, .int .i64 0, .int .i64 0] ∧ Below w.heap.size w _ := ⟨hS1.1.far (p := ⟨w.heap.size + 2, 2, none⟩) (by show b3 ≠ w.heap.size + 2; omega) (.int .i64 b), hS1.2.1.far (p := ⟨w.heap.size + 2, 2, none⟩) (by show w.heap.size ≠ w.heap.size + 2; omega) (.int .i64 b), hS1.2.2.setCell (p := ⟨w.heap.size + 2, 2, none⟩) (by show w.heap.size ≤ w.heap.size + 2; omega) (.int .i64 b)⟩
          have e22 := e21.set_ 2 (.int .i64 b)
          simp at e22
          refine hK _ _ hS2 ?_
          clear hK ff cc
          try simp only [Act.put, List.setIfInBounds_toArray, List.set_cons_zero, List.set_cons_succ]
          refine any_pure 12 (v := ?_) rfl (by kernel_rfl) (by intro _ _ _ h; exact h) (by assumption) (by rfl) (fun W hW => ?_) ?_
          rotate_left
          · first | (go_simp; done) | (go_simp; with_reducible rfl)
          try simp only [Act.put, List.setIfInBounds_toArray, List.set_cons_zero, List.set_cons_succ]
          refine any_one 13 (by kernel_rfl) rfl (by rfl) (fun K hK => ?_)
          have ff := e22.frozen
          have cc := e22.cell 3
          simp at cc
          go_simp
          have hS3 : Blk _ b3 56 #[.int .i64 a, .int .i64 b, .int .i64 c, .int .i64 d] ∧ Blk _ w.heap.size 28 #[.int .i64 0, .int .i64 0, .int .i64 0, .int .i64 0, .int .i64 0] ∧ Below w.heap.size w _ := ⟨hS2.1.far (p := ⟨w.heap.size + 2, 3, none⟩) (by show b3 ≠ w.heap.size + 2; omega) (.int .i64 c), hS2.2.1.far (p := ⟨w.heap.size + 2, 3, none⟩) (by show w.heap.size ≠ w.heap.size + 2; omega) (.int .i64 c), hS2.2.2.setCell (p := ⟨w.heap.size + 2, 3, none⟩) (by show w.heap.size ≤ w.heap.size + 2; omega) (.int .i64 c)⟩
          have e23 := e22.set_ 3 (.int .i64 c)
          simp at e23
          refine hK _ _ hS3 ?_
          clear hK ff cc
          try simp only [Act.put, List.setIfInBounds_toArray, List.set_cons_zero, List.set_cons_succ]
          refine any_pure 14 (v := ?_) rfl (by kernel_rfl) (by intro _ _ _ h; exact h) (by assumption) (by rfl) (fun W hW => ?_) ?_
          rotate_left
          · first | (go_simp; done) | (go_simp; with_reducible rfl)
          try simp only [Act.put, List.setIfInBounds_toArray, List.set_cons_zero, List.set_cons_succ]
          refine any_one 15 (by kernel_rfl) rfl (by rfl) (fun K hK => ?_)
          have ff := e23.frozen
          have cc := e23.cell 4
          simp at cc
          go_simp
          have hS4 : Blk _ b3 56 #[.int .i64 a, .int .i64 b, .int .i64 c, .int .i64 d] ∧ Blk _ w.heap.size 28 #[.int .i64 0, .int .i64 0, .int .i64 0, .int .i64 0, .int .i64 0] ∧ Below w.heap.size w _ := ⟨hS3.1.far (p := ⟨w.heap.size + 2, 4, none⟩) (by show b3 ≠ w.heap.size + 2; omega) (.int .i64 d), hS3.2.1.far (p := ⟨w.heap.size + 2, 4, none⟩) (by show w.heap.size ≠ w.heap.size + 2; omega) (.int .i64 d), hS3.2.2.setCell (p := ⟨w.heap.size + 2, 4, none⟩) (by show w.heap.size ≤ w.heap.size + 2; omega) (.int .i64 d)⟩
          have e24 := e23.set_ 4 (.int .i64 d)
          simp at e24
          refine hK _ _ hS4 ?_
          clear hK ff cc
          try simp only [Act.put, List.setIfInBounds_toArray, List.set_cons_zero, List.set_cons_succ]
          refine any_done (by kernel_rfl) ?_
          have E2 := Lib.hid (And.intro hS4 e24)
          have c0 := e24.cell 0
          have c1 := e24.cell 1
          have c2 := e24.cell 2
          have c3 := e24.cell 3
          have c4 := e24.cell 4
          simp at c0 c1 c2 c3 c4
          clear hS0 hS1 hS2 hS3 hS4 e20 e21 e22 e23 e24
          generalize (((V0.setCell ⟨w.heap.size + 2, 1, none⟩ (.int .i64 a)).setCell ⟨w.heap.size + 2, 2, none⟩ (.int .i64 b)).setCell ⟨w.heap.size + 2, 3, none⟩ (.int .i64 c)).setCell ⟨w.heap.size + 2, 4, none⟩ (.int .i64 d) = WD at *
          by_cases he : errS kd a b c = 0
          · have HTX := Lib.hid (shtext_ok kd a b c d H5.out WD (HR.out.up E2.out.1.2.2).tabs.pow he)
            go_wp2_with fail
            refine HTX.out.mono ?_
            rintro x w5 ⟨rfl, hb⟩
            have g2 := E2.out.2.later hb
            have g0 := E2.out.1.2.1.later hb
            have gW := sub_trans E2.out.1.2.2 hb
            clear hb c0 c1 c2 c3 c4 HTX
            by_cases ht : shB kd a b c d = s
            · have HOK := Lib.hid (And.intro he ht)
              rw [ht]
              have d0 := g2.cell 0
              have d1 := g2.cell 1
              have d2 := g2.cell 2
              have d3 := g2.cell 3
              have d4 := g2.cell 4
              simp at d0 d1 d2 d3 d4
              clear he ht
              have HG2 := Lib.hid (And.intro g0 gW)
              clear g2 g0 gW
              have hz := HG2.out.1
              have hzz := set5_blk hz (.int .i64 kd) (.int .i64 a) (.int .i64 b) (.int .i64 c) (.int .i64 d)
              have hzb := set5_below (HG2.out.2) (Nat.le_refl _) (.int .i64 kd) (.int .i64 a) (.int .i64 b) (.int .i64 c) (.int .i64 d)
              have r0 := hz.cell 0
              have r1 := hz.cell 1
              have r2 := hz.cell 2
              have r3 := hz.cell 3
              have r4 := hz.cell 4
              have rf := hz.frozen
              simp at r0 r1 r2 r3 r4
              have HZ := Lib.hid (And.intro hzz hzb)
              clear hz hzz hzb
              go_wp2
              have z0 := HZ.out.1.cell 0
              have z1 := HZ.out.1.cell 1
              have z2 := HZ.out.1.cell 2
              have z3 := HZ.out.1.cell 3
              have z4 := HZ.out.1.cell 4
              unfold set5 at z0 z1 z2 z3 z4
              simp at z0 z1 z2 z3 z4
              exact bodyPost_ret (v := .tuple #[.agg #[.int .i64 kd, .int .i64 a, .int .i64 b, .int .i64 c, .int .i64 d], .int .i64 0]) (by simp [results, Tryd.results8, go_sem, z0, z1, z2, z3, z4]) rfl ⟨HZ.out.2, .inl ⟨kd, a, b, c, d, H5.out, HOK.out.1, HOK.out.2, rfl⟩⟩
            · have HNS := Lib.hid (HNO.out fun _ => ht)
              have htx := toList_neB ht
              have HG2 := Lib.hid (And.intro g0 gW)
              clear g2 g0 gW ht he
              generalize shB kd a b c d = tx at *
              have hz := HG2.out.1
              have hzz := set5_blk hz (.int .i64 0) (.int .i64 0) (.int .i64 0) (.int .i64 0) (.int .i64 0)
              have hzb := set5_below (HG2.out.2) (Nat.le_refl _) (.int .i64 0) (.int .i64 0) (.int .i64 0) (.int .i64 0) (.int .i64 0)
              have r0 := hz.cell 0
              have r1 := hz.cell 1
              have r2 := hz.cell 2
              have r3 := hz.cell 3
              have r4 := hz.cell 4
              have rf := hz.frozen
              simp at r0 r1 r2 r3 r4
              have HZ := Lib.hid (And.intro hzz hzb)
              clear hz hzz hzb
              go_wp2
              have z0 := HZ.out.1.cell 0
              have z1 := HZ.out.1.cell 1
              have z2 := HZ.out.1.cell 2
              have z3 := HZ.out.1.cell 3
              have z4 := HZ.out.1.cell 4
              unfold set5 at z0 z1 z2 z3 z4
              simp at z0 z1 z2 z3 z4
              exact bodyPost_ret (v := .tuple #[.agg #[.int .i64 0, .int .i64 0, .int .i64 0, .int .i64 0, .int .i64 0], .int .i64 10]) (by simp [results, Tryd.results8, go_sem, z0, z1, z2, z3, z4]) rfl ⟨HZ.out.2, .inr ⟨HNS.out, rfl⟩⟩
          · have HTX := Lib.hid (shtext_bad kd a b c d WD he)
            have HNS := Lib.hid (HNO.out fun h => absurd h he)
            have hne : (errS kd a b c != 0) = true := by simpa using he
            generalize errS kd a b c = er at *
            go_wp2_with fail
            refine HTX.out.mono ?_
            rintro x w5 ⟨rfl, hb⟩
            have HG2 := Lib.hid (And.intro (E2.out.1.2.1.later hb) (sub_trans E2.out.1.2.2 hb))
            clear hb c0 c1 c2 c3 c4 HTX
            have hz := HG2.out.1
            have hzz := set5_blk hz (.int .i64 0) (.int .i64 0) (.int .i64 0) (.int .i64 0) (.int .i64 0)
            have hzb := set5_below (HG2.out.2) (Nat.le_refl _) (.int .i64 0) (.int .i64 0) (.int .i64 0) (.int .i64 0) (.int .i64 0)
            have r0 := hz.cell 0
            have r1 := hz.cell 1
            have r2 := hz.cell 2
            have r3 := hz.cell 3
            have r4 := hz.cell 4
            have rf := hz.frozen
            simp at r0 r1 r2 r3 r4
            have HZ := Lib.hid (And.intro hzz hzb)
            clear hz hzz hzb
            go_wp2
            have z0 := HZ.out.1.cell 0
            have z1 := HZ.out.1.cell 1
            have z2 := HZ.out.1.cell 2
            have z3 := HZ.out.1.cell 3
            have z4 := HZ.out.1.cell 4
            unfold set5 at z0 z1 z2 z3 z4
            simp at z0 z1 z2 z3 z4
            exact bodyPost_ret (v := .tuple #[.agg #[.int .i64 0, .int .i64 0, .int .i64 0, .int .i64 0, .int .i64 0], .int .i64 10]) (by simp [results, Tryd.results8, go_sem, z0, z1, z2, z3, z4]) rfl ⟨HZ.out.2, .inr ⟨HNS.out, rfl⟩⟩
theorem shparse_any (s : ByteArray) (hs : s.size ≤ 1000) (w : World) (hR : Ready w) : Calls Tryd.prog 8 #[.string s] w (ShPost s w) := by
  by_cases hl : (wordsB 32 s).length = 5
  · exact shparse_some s hs w hR hl
  · exact shparse_len s hs w hR hl
end Go.Proofs.YtcmnlnnhebdblaaDoor
