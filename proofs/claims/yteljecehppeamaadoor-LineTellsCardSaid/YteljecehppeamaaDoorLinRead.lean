/-
  The reader of a line's words, walked (chapter 41). Conditions: strconv's table and errors lie in memory.
-/
import Derived.Test.YteljecehppeamaaDoorLinText
import Derived.Test.YteljecehppeamaaDoorStrconvP
import Derived.Test.YteljecehppeamaaDoorKeep
namespace Go.Proofs.YteljecehppeamaaDoor
open Go.RowKit Go.Fw Go.Shelf
set_option maxHeartbeats 2000000
set_option maxRecDepth 4000
set_option linter.unusedVariables false
set_option linter.unusedSimpArgs false
/-- a reader that stands ahead of word k of these words, which lie in block g -/
structure RdAt (w : World) (rb g : Nat) (all : List ByteArray) (k : Nat) (bad : Bool) : Prop where
  box : ∃ off : Nat, (k < all.length → off = k) ∧ Blk w rb 77 #[.slice (some ⟨g, off, none⟩) (all.length - k) (all.length - k), .bool bad]
  row : Blk w g 9 (strs all).toArray
  le : k ≤ all.length
theorem blk_ne {w : World} {g g' : Nat} {t t' : TypeId} {cs cs' : Array Value} (h : Blk w g t cs) (h' : Blk w g' t' cs') (hne : t ≠ t') : g ≠ g' := by
  rintro rfl
  unfold Blk at h h'
  rw [h] at h'
  injection h' with h'
  injection h' with _ ht
  exact hne ht
theorem RdAt.ne {w : World} {rb g : Nat} {all : List ByteArray} {k : Nat} {bad : Bool} (h : RdAt w rb g all k bad) : rb ≠ g := by
  obtain ⟨_, _, hb⟩ := h.box
  exact blk_ne hb h.row (by decide)
theorem RdAt.up {w w' : World} {rb g : Nat} {all : List ByteArray} {k : Nat} {bad : Bool} (h : RdAt w rb g all k bad) (hb : Below w.heap.size w w') : RdAt w' rb g all k bad := by
  obtain ⟨off, h1, h2⟩ := h.box
  exact ⟨⟨off, h1, h2.later hb⟩, h.row.later hb, h.le⟩
theorem RdAt.keep {w w' : World} {L : Nat → Prop} {rb g : Nat} {all : List ByteArray} {k : Nat} {bad : Bool} (h : RdAt w rb g all k bad) (hk : Keep L w w') (h1 : ¬ L rb) (h2 : ¬ L g) : RdAt w' rb g all k bad := by
  obtain ⟨off, h3, h4⟩ := h.box
  exact ⟨⟨off, h3, hk.blk h4 h1⟩, hk.blk h.row h2, h.le⟩
theorem RdAt.lt {w : World} {rb g : Nat} {all : List ByteArray} {k : Nat} {bad : Bool} (h : RdAt w rb g all k bad) : rb < w.heap.size := by
  obtain ⟨_, _, hb⟩ := h.box
  exact hb.lt
theorem word_none (w : World) (rb g : Nat) (all : List ByteArray) (bad : Bool) (h : RdAt w rb g all all.length bad) :
    Calls Tryd.prog 36 #[.pointer (some ⟨rb, 0, none⟩)] w fun x w' => x = .returned (.string ByteArray.empty) ∧ RdAt w' rb g all all.length true ∧ Keep (fun j => j = rb) w w' := by
  obtain ⟨off, h1, h2⟩ := h.box
  rw [Nat.sub_self] at h2
  have c0 := h2.cell 0
  have c1 := h2.cell 1
  have f0 := h2.frozen
  simp at c0 c1
  have HN : Hid (RdAt (w.setCell ⟨rb, 1, none⟩ (.bool true)) rb g all all.length true) := by
    refine ⟨⟨off, fun h => by omega, ?_⟩, h.row.far (p := ⟨rb, 1, none⟩) h.ne.symm _, Nat.le_refl _⟩
    have := h2.set_ 1 (.bool true)
    rw [Nat.sub_self]
    exact this
  have HK : Hid (Keep (fun j => j = rb) w (w.setCell ⟨rb, 1, none⟩ (.bool true))) := Lib.hid ((Keep.refl (fun j => j = rb) w).setCell (p := ⟨rb, 1, none⟩) (.inl rfl) _)
  clear h h1 h2
  generalize all.length = n at *
  go_enter Tryd.func36, Tryd.ntmps36
  go_wp2
  go_ret
  exact ⟨rfl, HN.out, HK.out⟩
theorem word_some (w : World) (rb g k : Nat) (all : List ByteArray) (bad : Bool) (hk : k < all.length) (hlen : all.length ≤ 1000000) (h : RdAt w rb g all k bad) :
    Calls Tryd.prog 36 #[.pointer (some ⟨rb, 0, none⟩)] w fun x w' => x = .returned (.string all[k]) ∧ RdAt w' rb g all (k + 1) bad ∧ Keep (fun j => j = rb) w w' := by
  obtain ⟨off, h1, h2⟩ := h.box
  obtain rfl := h1 hk
  obtain ⟨m, hm⟩ : ∃ m, all.length - off = m + 1 := ⟨all.length - off - 1, by omega⟩
  rw [hm] at h2
  have c0 := h2.cell 0
  have c1 := h2.cell 1
  have f0 := h2.frozen
  have r0 : w.cell? ⟨g, off, none⟩ = some (.string all[off]) := (h.row.cell off).trans (by simp [strs, hk])
  simp at c0 c1
  have HN : Hid (∀ off', (off + 1 < all.length → off' = off + 1) → RdAt (w.setCell ⟨rb, 0, none⟩ (.slice (some ⟨g, off', none⟩) m m)) rb g all (off + 1) bad) := by
    intro off' hoff
    refine ⟨⟨off', hoff, ?_⟩, h.row.far (p := ⟨rb, 0, none⟩) h.ne.symm _, by omega⟩
    have := h2.set_ 0 (.slice (some ⟨g, off', none⟩) m m)
    rw [show all.length - (off + 1) = m by omega]
    exact this
  have HK : Hid (∀ v, Keep (fun j => j = rb) w (w.setCell ⟨rb, 0, none⟩ v)) := Lib.hid fun v => (Keep.refl (fun j => j = rb) w).setCell (p := ⟨rb, 0, none⟩) (.inl rfl) _
  have HM : Hid (m + 1 + off = all.length) := by show _ = _; omega
  have hm2 : m ≤ 1000000 := by omega
  clear h h1 h2 hm hlen
  generalize all[off] = x0 at *
  clear hk
  generalize all.length = n at *
  by_cases hm0 : m = 0
  · subst hm0
    go_enter Tryd.func36, Tryd.ntmps36
    go_wp2
    go_ret
    exact ⟨rfl, HN.out _ (fun h => by have := HM.out; omega), HK.out _⟩
  · go_enter Tryd.func36, Tryd.ntmps36
    go_wp2
    go_ret
    exact ⟨rfl, HN.out _ (fun h => rfl), HK.out _⟩
/-- a word of a list, or none -/
def wdAt (all : List ByteArray) (k : Nat) : ByteArray := all.getD k ByteArray.empty
/-- the word that a reader takes, and whether there was none -/
theorem word_any (w : World) (rb g k : Nat) (all : List ByteArray) (bad : Bool) (hlen : all.length ≤ 1000000) (h : RdAt w rb g all (min k all.length) bad) :
    Calls Tryd.prog 36 #[.pointer (some ⟨rb, 0, none⟩)] w fun x w' => x = .returned (.string (wdAt all k)) ∧ RdAt w' rb g all (min (k + 1) all.length) (bad || decide (all.length ≤ k)) ∧ Keep (fun j => j = rb) w w' := by
  by_cases hk : k < all.length
  · have e1 : wdAt all k = all[k] := by simp [wdAt, List.getD_eq_getElem?_getD, hk]
    have e2 : min (k + 1) all.length = k + 1 := by omega
    have e3 : (bad || decide (all.length ≤ k)) = bad := by simp; omega
    rw [show min k all.length = k by omega] at h
    rw [e1, e2, e3]
    exact word_some w rb g k all bad hk hlen h
  · have e1 : wdAt all k = ByteArray.empty := by simp [wdAt, List.getD_eq_getElem?_getD, show all.length ≤ k by omega]
    have e2 : min (k + 1) all.length = all.length := by omega
    have e3 : (bad || decide (all.length ≤ k)) = true := by simp; omega
    rw [show min k all.length = all.length by omega] at h
    rw [e1, e2, e3]
    exact word_none w rb g all bad h
def numAt (all : List ByteArray) (k : Nat) : Option Int := readW (wdAt all k)
theorem numAt_out {all : List ByteArray} {k : Nat} (h : all.length ≤ k) : numAt all k = none := by
  have e : wdAt all k = ByteArray.empty := by unfold wdAt; simp [List.getD_eq_getElem?_getD, h]
  unfold numAt
  rw [e]
  refine readW_bad fun v hv => ?_
  simp [Lib.atoiAll] at hv
theorem str_ne {a b : ByteArray} (h : a ≠ b) : (a.toList != b.toList) = true := by
  simp only [bne_iff_ne, ne_eq]
  intro e
  rw [ByteArray.toList_eq, ByteArray.toList_eq] at e
  exact h (bytes_ext e)
theorem str_same (a : ByteArray) : (a.toList != a.toList) = false := by simp
theorem num_any (w0 w : World) (rb g k : Nat) (all : List ByteArray) (bad : Bool) (hlen : all.length ≤ 1000000) (hsz : ∀ x ∈ all, x.size ≤ 1000000) (hR : Ready w0) (hb0 : Below w0.heap.size w0 w) (hrb : w0.heap.size ≤ rb) (h : RdAt w rb g all (min k all.length) bad) :
    Calls Tryd.prog 37 #[.pointer (some ⟨rb, 0, none⟩)] w fun x w' => ∃ n, x = .returned (.int .i64 n) ∧ In64 n ∧ (∀ v, numAt all k = some v → n = v) ∧ RdAt w' rb g all (min (k + 1) all.length) (bad || !(numAt all k).isSome) ∧ Keep (fun j => j = rb) w w' := by
  have HW := Lib.hid (word_any w rb g k all bad hlen h)
  have hx : (wdAt all k).size ≤ 1000000 := by
    by_cases hk : k < all.length
    · have e1 : wdAt all k = all[k] := by simp [wdAt, List.getD_eq_getElem?_getD, hk]
      rw [e1]
      exact hsz _ (List.getElem_mem hk)
    · have e1 : wdAt all k = ByteArray.empty := by simp [wdAt, List.getD_eq_getElem?_getD, show all.length ≤ k by omega]
      rw [e1]
      decide
  have HX := Lib.hid hx
  have HNA : Hid (numAt all k = readW (wdAt all k)) := Lib.hid rfl
  have HBD : Hid ((bad || decide (all.length ≤ k)) = true → (numAt all k).isSome = true → bad = true) := Lib.hid fun h1 h2 => by
    by_cases hk : all.length ≤ k
    · rw [numAt_out hk] at h2
      cases h2
    · simpa [hk] using h1
  have HBE : Hid (bad = true → (bad || decide (all.length ≤ k)) = true) := Lib.hid fun h => by rw [h]; rfl
  have HR := Lib.hid hR
  have HB0 := Lib.hid hb0
  have hlt := h.lt
  have HL := Lib.hid hlt
  clear hx hR hb0 hsz h hlt
  generalize wdAt all k = x0 at *
  generalize (bad || decide (all.length ≤ k)) = bd at *
  go_enter Tryd.func37, Tryd.ntmps37
  go_wp2_with fail
  refine HW.out.mono ?_
  rintro y w1 ⟨rfl, hr1, hk1⟩
  have HR1 := Lib.hid hr1
  have HK1 := Lib.hid hk1
  have hbb : Below w0.heap.size w0 w1 := HB0.out.trans (hk1.below HB0.out.size (fun j e => by rw [e]; exact hrb))
  have HBB := Lib.hid hbb
  clear hr1 hk1 hbb
  go_wp2_with fail
  refine (pint_any x0 HX.out _ (HR.out.up HBB.out).tabs).mono ?_
  rintro y w2 ⟨n, ok, ⟨ev, rfl, hev⟩, hra, hb2⟩
  have HRA := Lib.hid hra
  have HB2 := Lib.hid hb2
  have hr2 := HR1.out.up hb2
  have hk2 := HK1.out.trans (Keep.of_below (L := fun j => j = rb) hb2)
  have HR2 := Lib.hid hr2
  have HK2 := Lib.hid hk2
  have hbb2 := sub_trans HBB.out hb2
  have HBB2 := Lib.hid hbb2
  clear hra hb2 hr2 hk2 hbb2
  obtain ⟨off, _, hbx⟩ := HR2.out.box
  have hbx2 := hbx.set_ 1 (.bool true)
  have c1 := hbx.cell 1
  have f1 := hbx.frozen 1
  simp at c1
  have HN2 : Hid (RdAt (w2.setCell ⟨rb, 1, none⟩ (.bool true)) rb g all (min (k + 1) all.length) true) :=
    ⟨⟨off, by obtain ⟨off2, h3, h4⟩ := HR2.out.box; intro h5; have := h3 h5; unfold Blk at hbx h4; rw [hbx] at h4; simp at h4; omega, by simpa using hbx2⟩, HR2.out.row.far (p := ⟨rb, 1, none⟩) HR2.out.ne.symm _, HR2.out.le⟩
  have HKS : Hid (Keep (fun j => j = rb) w (w2.setCell ⟨rb, 1, none⟩ (.bool true))) := Lib.hid (HK2.out.setCell (p := ⟨rb, 1, none⟩) (.inl rfl) _)
  clear hbx hbx2
  have hfin : ∀ w', readW x0 = none → RdAt w' rb g all (min (k + 1) all.length) true → Keep (fun j => j = rb) w w' → ∃ n_1, Ending.returned (.int .i64 n) = .returned (.int .i64 n_1) ∧ In64 n_1 ∧ (∀ v, numAt all k = some v → n_1 = v) ∧ RdAt w' rb g all (min (k + 1) all.length) (bad || !(numAt all k).isSome) ∧ Keep (fun j => j = rb) w w' := fun w' hn hr hk => by
    refine ⟨n, rfl, HRA.out.1, fun v hv => ?_, ?_, hk⟩
    · rw [HNA.out, hn] at hv
      cases hv
    · rw [HNA.out, hn]
      simpa using hr
  have HFIN := Lib.hid hfin
  clear hfin
  rcases hev with ⟨rfl, rfl⟩ | ⟨rfl, t9, p9, rfl⟩
  · have HNB := Lib.hid (number_any n HRA.out.1 w2 (HR.out.up HBB2.out).tabs.pow)
    by_cases he : decB n = x0
    · have HRW : Hid (readW x0 = some n) := Lib.hid (readW_ok (HRA.out.2.1 rfl) he)
      have hss := str_same x0
      rw [he] at HNB
      have hfin : ∀ w', Below w2.heap.size w2 w' → ∃ n_1, Ending.returned (.int .i64 n) = .returned (.int .i64 n_1) ∧ In64 n_1 ∧ (∀ v, numAt all k = some v → n_1 = v) ∧ RdAt w' rb g all (min (k + 1) all.length) (bad || !(numAt all k).isSome) ∧ Keep (fun j => j = rb) w w' := fun w' hb => by
        refine ⟨n, rfl, HRA.out.1, fun v hv => ?_, ?_, HK2.out.trans (Keep.of_below hb)⟩
        · rw [HNA.out, HRW.out] at hv
          injection hv
        · have e : (bad || !(numAt all k).isSome) = bd := by
            have hs : (numAt all k).isSome = true := by rw [HNA.out, HRW.out]; rfl
            have q1 := fun h => HBD.out h hs
            have q2 := HBE.out
            rw [hs]
            cases hq : bd <;> cases hq2 : bad <;> simp_all
          rw [e]
          exact HR2.out.up hb
      have HF2 := Lib.hid hfin
      clear hfin he c1 f1
      go_wp2_with fail
      refine HNB.out.mono ?_
      rintro y w3 ⟨rfl, hb3⟩
      go_wp2
      go_ret
      exact HF2.out _ hb3
    · have HRW : Hid (readW x0 = none) := Lib.hid (readW_other (HRA.out.2.1 rfl) he)
      have hss := str_ne he
      have hss2 : ((decB n).toList == x0.toList) = false := by simpa using hss
      clear he c1 f1 HN2 HKS
      generalize decB n = y0 at *
      go_wp2_with fail
      refine HNB.out.mono ?_
      rintro y w3 ⟨rfl, hb3⟩
      have hr3 := HR2.out.up hb3
      obtain ⟨off, hoff, hbx⟩ := hr3.box
      have hbx2 := hbx.set_ 1 (.bool true)
      have c1 := hbx.cell 1
      have f1 := hbx.frozen 1
      simp at c1
      have HN3 : Hid (RdAt (w3.setCell ⟨rb, 1, none⟩ (.bool true)) rb g all (min (k + 1) all.length) true) :=
        ⟨⟨off, hoff, by simpa using hbx2⟩, hr3.row.far (p := ⟨rb, 1, none⟩) hr3.ne.symm _, hr3.le⟩
      have HK3 : Hid (Keep (fun j => j = rb) w (w3.setCell ⟨rb, 1, none⟩ (.bool true))) := Lib.hid ((HK2.out.trans (Keep.of_below hb3)).setCell (p := ⟨rb, 1, none⟩) (.inl rfl) _)
      clear hbx hbx2 hr3 hb3 hoff
      go_wp2
      go_ret
      exact HFIN.out _ HRW.out HN3.out HK3.out
  · have HRW : Hid (readW x0 = none) := Lib.hid (readW_bad (HRA.out.2.2 rfl))
    go_wp2
    go_ret
    exact HFIN.out _ HRW.out HN2.out HKS.out
theorem kind_any (x : ByteArray) (w : World) : Calls Tryd.prog 35 #[.string x] w fun y w' => y = .returned (.int .i64 (kindW x : Int)) ∧ Below w.heap.size w w' := by
  go_enter Tryd.func35, Tryd.ntmps35
  go_wp2
  go_loopw [3] (fun i wr => ∃ k : Nat, 1 ≤ k ∧ k ≤ 9 ∧ i = .int .i64 k ∧ Below w.heap.size w wr ∧ Hid (∀ j, 1 ≤ j → j < k → vbB j ≠ x)) (fun i _ => 9 - (intOf i).toNat)
  case atStart => exact ⟨1, by omega, by omega, rfl, Below.refl _ _, Lib.hid (fun j h1 h2 => by omega)⟩
  case round =>
    obtain ⟨k, h1, h9, rfl, hb, HK⟩ := hrel
    by_cases hlt : k ≤ 8
    · have HV := Lib.hid (verb_any (k : Int) wr)
      have HVE : Hid (vbB (k : Int).toNat = vbB k) := Lib.hid (by rw [Int.toNat_natCast])
      rw [HVE.out] at HV
      by_cases he : vbB k = x
      · have HF : Hid ((kindW x : Int) = k) := Lib.hid (by rw [← he, kindW_vb k h1 hlt])
        have hss : (x.toList == x.toList) = true := by simp
        rw [he] at HV
        clear he
        go_wp2_with fail
        refine HV.out.mono ?_
        rintro y w1 ⟨rfl, hb1⟩
        have hb2 := sub_trans hb hb1
        go_wp2
        go_ret
        exact ⟨ret_i HF.out.symm, hb2⟩
      · have hss : ((vbB k).toList == x.toList) = false := by
          have := str_ne he
          simpa using this
        have HE := Lib.hid he
        clear he
        generalize hvb : vbB k = V at *
        have HVB := Lib.hid hvb
        clear hvb
        go_wp2_with fail
        refine HV.out.mono ?_
        rintro y w1 ⟨rfl, hb1⟩
        have hb2 := sub_trans hb hb1
        go_wp2
        go_roundw
        case rel =>
          refine ⟨k + 1, by omega, by omega, by go_num, hb2, Lib.hid fun j hj1 hj2 => ?_⟩
          by_cases hjk : j = k
          · subst hjk
            rw [HVB.out]
            exact HE.out
          · exact HK.out j hj1 (by omega)
        case measure => simp [intOf]; omega
    · have HF : Hid ((kindW x : Int) = 0) := Lib.hid (by rw [kindW_none fun j h1 h2 => HK.out j h1 (by omega)]; rfl)
      go_wp2
      go_ret
      exact ⟨ret_i HF.out.symm, hb⟩
end Go.Proofs.YteljecehppeamaaDoor
