/-
  2 texts of this claim, joined; each says itself what it proves. Condition: as each text says.
-/
import Derived.Test.YteljecehppeamaaGreatDoorJ02
import Derived.Test.YteljecehppeamaaGreatDoorJ10
import Derived.Test.YteljecehppeamaaGreatDoorJ06
import Derived.Test.YteljecehppeamaaGreatDoorJ05
import Derived.Deep.DeepCutAuto
import Derived.Shelf.Strings.BuilderF
/-
  picks.Text and the reference's, walked. Conditions: strconv's table lies in memory; few numbers.
-/
namespace Go.Proofs.YteljecehppeamaaGreatDoor
open Go.RowKit Go.Fw Go.Shelf
set_option maxHeartbeats 2000000
set_option maxRecDepth 100000
set_option linter.unusedVariables false
set_option linter.unusedSimpArgs false
theorem joinS_app (c : UInt8) : ∀ (a b : List (List UInt8)), a ≠ [] → joinS c (a ++ b) = joinS c a ++ b.flatMap fun x => c :: x
  | [], _, h => absurd rfl h
  | w :: r, b, _ => by simp [joinS]
theorem textN_take_le (l : List Int) (k : Nat) : (textN (l.take k)).length ≤ (textN l).length := by
  by_cases h : l.take k = []
  · rw [h]; simp [textN, joinS]
  · have e : textN l = textN (l.take k) ++ ((l.drop k).map Lib.itoa).flatMap fun x => 32 :: x := by
      unfold textN
      rw [← joinS_app 32 _ _ (by simpa using h), ← List.map_append, List.take_append_drop]
    rw [e, List.length_append]
    omega
theorem ptext_len (l : List Int) (A : Option Addr) (c : Nat) (w : World) (hT : Tabs Tryz.prog w) (hr : Reads w w.heap.size 1 A l.length (i64s l)) (hin : ∀ x ∈ l, In64 x) (hl : l.length ≤ 100000) (htl : (textN l).length ≤ 100000) :
    Calls Tryz.prog 23 #[.slice A l.length c] w fun e w' => e = .returned (.string (Go.Fw.textB l)) ∧ Below w.heap.size w w' := by
  have HIN := Lib.hid hin
  have HR := Lib.hid hr
  have HT := Lib.hid hT
  have HLEN : Hid (∀ k, (textN (l.take k)).length ≤ 100000) := Lib.hid fun k => by
    have h1 := textN_take_le l k
    omega
  clear htl
  clear hin hr hT
  go_enter Tryz.func23, Tryz.ntmps23
  generalize hnl : l.length = N at *
  have HN := Lib.hid hnl
  clear hnl
  go_wp2
  go_loopw [8] (fun i wr => ∃ k : Nat, k ≤ N ∧ i = .int .i64 k ∧ Bld wr w.heap.size (textN (l.take k)) ∧ Below w.heap.size w wr)
    (fun i _ => N - (intOf i).toNat)
  case atStart => exact ⟨0, Nat.zero_le _, rfl, BAt.new_ _ _ w rfl, sub_alloc (Below.refl _ w) _⟩
  case round =>
    obtain ⟨k, hk, rfl, hB, hbel⟩ := hrel
    by_cases hlt : k < N
    · have hkl : k < l.length := by have := HN.out; omega
      obtain ⟨ad, u, rfl, _, hux, hc⟩ := (HR.out.up hbel).at_ hlt
      obtain rfl := i64s_get hux hkl
      have hxin := HIN.out _ (List.getElem_mem hkl)
      have HS := Lib.hid (textN_succ hkl)
      have HX := Lib.hid hxin
      have HB := Lib.hid hB
      clear hxin hux hB
      generalize l[k] = x at *
      go_upto_if 14 with fail
      go_cut [] (fun wx => Bld wx w.heap.size (preN l k) ∧ Below w.heap.size w wx)
      case first =>
        by_cases h0 : k = 0
        · subst h0
          go_wp2
          go_meet
          exact ⟨HB.out, hbel⟩
        · have h0I : 0 < (k : Int) := by omega
          have hpre : preN l k = textN (l.take k) ++ [32] := by unfold preN; rw [if_neg h0]
          have HP := Lib.hid hpre
          have HW := Lib.hid (bwbyte_any w.heap.size _ 32 wr HB.out (by have := HLEN.out k; omega))
          clear hpre
          go_wp2_with fail
          refine HW.out.mono ?_
          rintro e w2 ⟨rfl, h2, hb2⟩
          go_wp2
          go_meet
          exact ⟨by rw [HP.out]; exact h2, hbel.trans hb2⟩
      case rest =>
        obtain ⟨h1, hb1⟩ := hcut
        have H1 := Lib.hid h1
        clear h1 HB
        go_wp2_with fail
        refine (itoa_any x HX.out _ (HT.out.up hb1)).mono ?_
        rintro e w2 ⟨rfl, hb2⟩
        have h2 := H1.out.later hb2
        have hb3 := sub_trans hb1 hb2
        have HD : Hid ((decB x).size ≤ 21) := Lib.hid (decB_size HX.out.1 HX.out.2)
        have HPL : Hid ((preN l k).length ≤ 100001) := Lib.hid (by
          unfold preN
          split
          · simp
          · have := HLEN.out k; simp; omega)
        have HW := Lib.hid (bwstr_any w.heap.size _ (decB x) w2 h2 (by have := HPL.out; omega) (by have := HD.out; omega))
        clear h2
        go_wp2_with fail
        refine HW.out.mono ?_
        rintro e w3 ⟨rfl, h3, hb4⟩
        have hb5 := hb3.trans hb4
        have h4 : Bld w3 w.heap.size (textN (l.take (k + 1))) := by rw [HS.out, ← decB_list]; exact h3
        have H4 := Lib.hid h4
        clear h3 h4 hb4 hb3 hb2 hb1
        go_wp2
        go_roundw
        case rel => exact ⟨k + 1, by omega, by go_num, H4.out, hb5⟩
        case measure => simp [intOf]; omega
    · have hke : k = N := by omega
      subst hke
      have ht : l.take k = l := by rw [← HN.out]; exact List.take_length
      rw [ht] at hB
      have HB := Lib.hid (bstring_any w.heap.size _ wr hB)
      clear hB
      go_wp2_with fail
      refine HB.out.mono ?_
      rintro e w2 ⟨rfl, _, hb2⟩
      go_wp2
      go_ret
      exact ⟨rfl, hbel.trans hb2⟩
theorem elemBP : ElemS Tryz.prog 52 5 (.int .u8 0) 1 1 := ⟨Tryz.underlying52, by kernel_rfl, rfl⟩
theorem bytes_reads (w : World) (s : ByteArray) : Reads (Lib.bytesWorld w 5 s) (Lib.bytesWorld w 5 s).heap.size 1 (some ⟨w.heap.size, 0, none⟩) s.size (bys s.data.toList) := by
  have hs : s.data.toList.length = s.size := rfl
  refine ⟨by rw [bys_length, hs]; omega, fun _ => ⟨_, rfl, by rw [Lib.bytesWorld_size]; simp, fun j u hu => ?_⟩⟩
  have hj : j < s.data.toList.length := by
    have := (List.getElem?_eq_some_iff.1 hu).1
    rwa [bys_length] at this
  rw [show (⟨w.heap.size, 0, none⟩ : Addr).add j = ⟨w.heap.size, j, none⟩ by unfold Addr.add; split <;> simp_all]
  rw [Lib.bytesWorld_cell w _ s j (by omega), List.getD_eq_getElem?_getD, List.getElem?_eq_getElem hj]
  simp [bys] at hu
  obtain ⟨a, ha, rfl⟩ := hu
  have e : s.data.toList[j] = a := by
    have h2 : s.data.toList[j]? = some a := by simpa using ha
    rw [List.getElem?_eq_getElem hj] at h2
    injection h2
  rw [e]
  rfl
theorem ptext_any (l : List Int) (A : Option Addr) (c : Nat) (w : World) (hT : Tabs Tryz.prog w) (hr : Reads w w.heap.size 1 A l.length (i64s l)) (hin : ∀ x ∈ l, In64 x) (hl : l.length ≤ 1000) :
    Calls Tryz.prog 23 #[.slice A l.length c] w fun e w' => e = .returned (.string (Go.Fw.textB l)) ∧ Below w.heap.size w w' := ptext_len l A c w hT hr hin (by omega) (by have := textN_len (l := l) hin; omega)
theorem rtext_len (l : List Int) (A : Option Addr) (c : Nat) (w : World) (hr : Reads w w.heap.size 1 A l.length (i64s l)) (hin : ∀ x ∈ l, In64 x) (hl : l.length ≤ 100000) (htl : (textN l).length ≤ 100000) :
    Calls Tryz.prog 32 #[.slice A l.length c] w fun e w' => e = .returned (.string (Go.Fw.textB l)) ∧ Below w.heap.size w w' := by
  have HIN := Lib.hid hin
  have HR := Lib.hid hr
  have HLEN : Hid (∀ k, (textN (l.take k)).length ≤ 100000) := Lib.hid fun k => by
    have h1 := textN_take_le l k
    omega
  clear htl
  clear hin hr
  go_enter Tryz.func32, Tryz.ntmps32
  generalize hnl : l.length = N at *
  have HN := Lib.hid hnl
  clear hnl
  go_wp2
  go_loopw [3, 4] (fun v i wr => ∃ k : Nat, k ≤ N ∧ i = .int .i64 k ∧ MineS 1 w wr 5 v (textN (l.take k)).length (bys (textN (l.take k))))
    (fun _ i _ => N - (intOf i).toNat)
  case atStart => exact ⟨0, Nat.zero_le _, rfl, MineS.nil_ 1 w _⟩
  case round =>
    obtain ⟨k, hk, rfl, hM⟩ := hrel
    obtain ⟨Ao, co, rfl, _, _⟩ := own_form hM.own
    by_cases hlt : k < N
    · have hkl : k < l.length := by have := HN.out; omega
      have HS := Lib.hid (textN_succ hkl)
      have HX := Lib.hid (HIN.out _ (List.getElem_mem hkl))
      obtain ⟨x, hx⟩ : ∃ x, x = l[k] := ⟨_, rfl⟩
      rw [← hx] at HS HX
      have HXE := Lib.hid hx
      clear hx
      have HM := Lib.hid hM
      have hL := HLEN.out k
      clear hM
      generalize hP : textN (l.take k) = P at *
      have HP := Lib.hid hP
      clear hP
      generalize hPL : P.length = pl at *
      have HPL := Lib.hid hPL
      clear hPL
      go_upto_if 12 with fail
      go_cut [3] (fun v wx => MineS 1 w wx 5 v (preN l k).length (bys (preN l k)))
      case first =>
        by_cases h0 : k = 0
        · subst h0
          go_wp2
          go_meet
          have h1 : P = [] := by rw [← HP.out]; exact textN_zero l
          have h2 := HM.out
          have h3 : pl = 0 := by rw [← HPL.out, h1]; rfl
          unfold preN
          rw [if_pos rfl]
          rw [h1] at h2
          subst h3
          exact h2
        · have h0I : 0 < (k : Int) := by omega
          have hpre : preN l k = P ++ [32] := by unfold preN; rw [if_neg h0, HP.out]
          have HPR := Lib.hid hpre
          have hM1 := HM.out
          clear hpre
          go_wp2_with (at_builtin; go_must (refine wpList_append_oneN (w := wr) (n := pl) (xs := bys P) elemBP (by decide) rfl _ _ rfl rfl hM1.own hM1.le rfl rfl rfl (by simp [Value.oneCell']) (by omega) (by unfold maxLen; omega) ?_); intro v2 w2 hm3 hg2 hv2; refine Hid.out ?_)
          refine Lib.hid ?_
          have hm4 : MineS 1 w w2 5 v2 (preN l k).length (bys (preN l k)) := by
            have h5 := HPR.out
            rw [h5]
            have h6 : (P ++ [32]).length = pl + 1 := by have := HPL.out; simp; omega
            rw [h6]
            exact ⟨by simpa [bys] using hm3, hM1.below.grown hg2 hM1.le fun g e => (hM1.own.lt g e).1⟩
          clear hm3 hg2 hv2 hM1
          go_wp2
          go_meet
          exact hm4
      case rest =>
        clear HM HP HPL hL
        obtain ⟨A1, c1, rfl, _, _⟩ := own_form hcut.own
        have hPL : (preN l k).length ≤ 100001 := by
          unfold preN
          split
          · simp
          · have := HLEN.out k; simp; omega
        obtain ⟨ad, u, rfl, _, hux, hc⟩ := (HR.out.up hcut.below).at_ hlt
        obtain rfl := i64s_get hux hkl
        rw [← HXE.out] at hc
        have HM := Lib.hid hcut
        have HDZ : Hid ((decB x).size ≤ 21) := Lib.hid (decB_size HX.out.1 HX.out.2)
        clear hux hcut
        generalize hP : preN l k = P at *
        clear hP
        generalize hPl : P.length = pl at *
        have HPL := Lib.hid hPl
        clear hPl
        have hcv := Lib.run_convert_string_bytes (P := Tryz.prog) wc 9 52 5 (decB x) Tryz.underlying9 Tryz.underlying52 Tryz.underlying5
        obtain ⟨i0, hi, hz, hsz, hby⟩ := info_parts elemBP.info
        go_wp2_with fail
        refine (dec_any x HX.out wc).mono ?_
        rintro e w2 ⟨rfl, rfl⟩
        go_wp2_with (at_builtin; refine Hid.out ?_)
        refine Lib.hid ?_
        have hR2 := bytes_reads wc (decB x)
        have hb2 := Lib.bytesWorld_below wc 5 (decB x)
        have hm2 := HM.out.later hb2
        refine wpList_append_any (Lib.bytesWorld wc 5 (decB x)) rfl _ _ 52 rfl w.heap.size 5 i0 (.int .u8 0) 1 1 elemBP.under hi hz hsz hby rfl (by decide) _ pl (bys P) rfl hm2.own _ _ _ _ _ rfl hR2 (bys_one _) (by have := HDZ.out; unfold maxLen; omega) (by have := HDZ.out; omega) hm2.le ?_
        intro v5 w5 hown5 hg5 _
        have hm5 : MineS 1 w w5 5 v5 (textN (l.take (k + 1))).length (bys (textN (l.take (k + 1)))) := by
          have hlen : (textN (l.take (k + 1))).length = pl + (decB x).size := by
            rw [HS.out, List.length_append, HPL.out, ← decB_list]
            rfl
          rw [hlen, HS.out, ← decB_list, ← bys_app]
          exact ⟨hown5, hm2.below.grown hg5 hm2.le fun g e => (hm2.own.lt g e).1⟩
        have H5 := Lib.hid hm5
        clear hm5 hown5 hg5 hm2 hb2 hR2 hcv HM
        go_wp2
        go_roundw
        case rel => exact ⟨k + 1, by omega, by go_num, H5.out⟩
        case measure => simp [intOf]; omega
    · have hke : k = N := by omega
      subst hke
      have ht : l.take k = l := by rw [← HN.out]; exact List.take_length
      rw [ht] at hM
      have hcv := run_str_reads (P := Tryz.prog) 52 9 5 co Tryz.underlying52 Tryz.underlying5 Tryz.underlying9 (Reads.of_own hM.own)
      have hb := hM.below
      rw [ht]
      clear hM
      go_wp2
      go_ret
      exact ⟨rfl, hb⟩
theorem rtext_any (l : List Int) (A : Option Addr) (c : Nat) (w : World) (hr : Reads w w.heap.size 1 A l.length (i64s l)) (hin : ∀ x ∈ l, In64 x) (hl : l.length ≤ 1000) :
    Calls Tryz.prog 32 #[.slice A l.length c] w fun e w' => e = .returned (.string (Go.Fw.textB l)) ∧ Below w.heap.size w w' := rtext_len l A c w hr hin (by omega) (by have := textN_len (l := l) hin; omega)
end Go.Proofs.YteljecehppeamaaGreatDoor
/-
  strings.Builder.Len, as the walks want it. Condition: none.
-/
namespace Go.Proofs
open Go.Shelf
def Tryz.lbln_ren : Go.Shelf.Ren := ⟨fun | 170 => 24 | n => n, fun | 70 => 51 | 3 => 3 | 0 => 0 | 72 => 54 | 37 => 52 | 5 => 5 | n => n, fun | n => n⟩
theorem Tryz.lbln : Go.Proofs.Lays.n170 Tryz.prog Tryz.lbln_ren := {
  mixed := by kernel_rfl
  f170 := Tryz.func24.trans (congrArg some (by kernel_rfl))
  t0 := Tryz.underlying0
  a0 := Tryz.isAgg0
  z0 := Tryz.sizeOf0
  v0 := Tryz.zeroValue0
  t3 := Tryz.underlying3
  a3 := Tryz.isAgg3
  z3 := Tryz.sizeOf3
  v3 := Tryz.zeroValue3
  t37 := Tryz.underlying52
  a37 := Tryz.isAgg52
  z37 := Tryz.sizeOf52
  v37 := Tryz.zeroValue52
  t70 := Tryz.underlying51
  a70 := Tryz.isAgg51
  z70 := Tryz.sizeOf51
  v70 := Tryz.zeroValue51
  t72 := Tryz.underlying54
  a72 := Tryz.isAgg54
  z72 := Tryz.sizeOf54
  v72 := Tryz.zeroValue54 }
end Go.Proofs
namespace Go.Proofs.YteljecehppeamaaGreatDoor
open Go.RowKit Go.Fw Go.Shelf
set_option linter.unusedVariables false
theorem blen_any (b : Nat) (l : List UInt8) (w : World) (h : Bld w b l) : Calls Tryz.prog 24 #[.pointer (some ⟨b, 0, none⟩)] w fun e w' => e = .returned (.int .i64 (l.length : Int)) ∧ w' = w := by
  have h1 := Any.Builder_Len_f Tryz.lbln b b (Lib.byteCells l) w h
  change Calls Tryz.prog 24 _ _ _ at h1
  have e : (Lib.byteCells l).length = l.length := by simp [Lib.byteCells]
  rw [e] at h1
  exact h1
end Go.Proofs.YteljecehppeamaaGreatDoor
