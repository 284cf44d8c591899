/-
  FifoTexts walked. Condition: none.
-/
import Derived.Test.YtnikpgngaoaiiaaFifoSF
import Derived.Test.YtnikpgngaoaiiaaFifoA
import Derived.Sort.CutIn
namespace Go.Proofs.Ytnikpgngaoaiiaa
open Go.RowKit Go.Shelf Go.Fw
set_option maxHeartbeats 2000000
set_option maxRecDepth 100000
set_option linter.unusedVariables false
set_option linter.unusedSimpArgs false
attribute [local go_sem] Oper.semAt_some
def FTx (w1 wr : World) (k : Nat) : Prop := ∃ S L, QSHas wr w1.heap.size w1.heap.size S L ∧ L.length = k ∧ Below w1.heap.size w1 wr
/-- what holds ahead of a round: as much was counted as came -/
def FtI (wc WA : World) (Bn : Nat) (pre : List ByteArray) (W : World) : Prop :=
  (Boxed W Bn 3 (.int .i64 (pre.length : Int)) ∧ Below wc.heap.size wc W) ∧ (Same (fun _ => False) WA W ∧ WA.heap.size ≤ W.heap.size)
def FtX (wc WA : World) (Bn : Nat) (most : Int) (c : Code) (pre : List ByteArray) (W : World) : Prop :=
  c = .exit 2 ∧ FtI wc WA Bn pre W ∧ most = (pre.length : Int)
theorem ftI_own {wc WA : World} {Bn : Nat} (h1 : wc.heap.size ≤ WA.heap.size) : OwnFrom WA.heap.size (FtI wc WA Bn) :=
  OwnFrom.and (OwnFrom.and (boxed_own _ _ _ _) (ownFrom_below (Nat.le_refl _) h1)) (same_ownT WA fun _ h => h.elim)
theorem ftX_own {wc WA : World} {Bn : Nat} (most : Int) (h1 : wc.heap.size ≤ WA.heap.size) (c : Code) : OwnFrom WA.heap.size (FtX wc WA Bn most c) := fun s W W' row hs hg hr =>
  ⟨hs.1, ftI_own h1 s W W' row hs.2.1 hg hr, hs.2.2⟩
theorem ftexts_long (l : List ByteArray) (A : Option Addr) (c : Nat) (most : Int) (w : World) (hl : l.length ≤ maxLen) (hbig : 60 < l.length) :
    Calls Try.prog 4 #[.slice A l.length c, .int .i64 most] w fun e w' => e = .returned (.bool true) ∧ Below w.heap.size w w' := by
  unfold maxLen at hl
  have hb0 : Below w.heap.size w (w.alloc (.cells #[.int .i64 most] 3)) := (Below.refl _ w).alloc (Nat.le_refl _) _
  have HB0 := Lib.hid hb0
  clear hb0
  go_enter Try.func4, Try.ntmps4
  go_wp2_with fail
  refine (qawake_any _).mono ?_
  rintro e w1 ⟨rfl, hb⟩
  have hb2 := sub_trans HB0.out hb
  clear hb
  go_wp2
  go_ret
  exact ⟨rfl, hb2⟩
theorem ftexts_few (l : List ByteArray) (A : Option Addr) (c : Nat) (most : Int) (w : World) (hr : Reads w w.heap.size 1 A l.length (strs l)) (hl : l.length ≤ 60) :
    Calls Try.prog 4 #[.slice A l.length c, .int .i64 most] w fun e w' => e = .returned (.bool true) ∧ Below w.heap.size w w' := by
  refine (callsIn_wide (n := 4)).1 ?_
  refine callsIn_of_wp_marks Try.func4 rfl trivial ?_ rfl
  simp only [Try.ntmps4, List.size_toArray, List.length_cons, List.length_nil, Nat.reduceAdd, Nat.reduceSub, Array.replicate_succ, Array.replicate_zero, List.push_toArray, List.append_toArray, List.nil_append, List.cons_append]
  have hb0 : Below w.heap.size w (w.alloc (.cells #[.int .i64 most] 3)) := (Below.refl _ w).alloc (Nat.le_refl _) _
  have hM : Blk (w.alloc (.cells #[.int .i64 most] 3)) w.heap.size 3 #[.int .i64 most] := Blk.new_at _ _ _ rfl
  have h60 : ¬ (60 : Int) < (l.length : Int) := by omega
  gi_wp2
  refine ⟨trivial, (callsIn_wide.2 (qawake_any _)).mono ?_⟩
  rintro e w1 ⟨rfl, hb⟩
  have hM1 := hM.later hb
  have HB1 := Lib.hid (sub_trans hb0 hb)
  have HR1 := Lib.hid (hr.up (sub_trans hb0 hb))
  have HNEW : Hid (FTx w1 (w1.alloc (.cells #[.slice none 0 0, .slice none 0 0] 41)) 0) := Lib.hid ⟨_, [], QHas.new_ w1 rfl rfl, rfl, sub_alloc (Below.refl _ _) _⟩
  clear hb hb0 hM hr
  generalize hnl : l.length = n at *
  have HN := Lib.hid hnl
  clear hnl
  gi_wp2
  gi_loopw [21] (fun i wr => ∃ k : Nat, k ≤ n ∧ i = .int .i64 k ∧ FTx w1 wr k) (fun i _ => n - (intOf i).toNat)
  case atStart => exact ⟨0, Nat.zero_le _, rfl, HNEW.out⟩
  case round =>
    obtain ⟨k, hk, rfl, S, L, hq, hlk, hBl⟩ := hrel
    by_cases hlt : k < n
    · have hkl : k < l.length := by have := HN.out; omega
      obtain ⟨ad, u, rfl, _, hux, hc⟩ := (HR1.out.up hBl).at_ hlt
      obtain rfl := strs_get hux hkl
      generalize l[k] = x at *
      have hput := qsput_any w1.heap.size w1.heap.size S L x wr hq hBl.size (by omega)
      have hge := hq.ge (Nat.le_refl _)
      have HP := Lib.hid (And.intro hput (And.intro hBl (And.intro hge hlk)))
      clear hux hput hBl hge hlk hq
      gi_wp2
      refine ⟨trivial, (callsIn_wide.2 HP.out.1).mono ?_⟩
      rintro e w2 ⟨rfl, hn2⟩
      have hb2 := HP.out.2.1.trans (hn2.below HP.out.2.1.size HP.out.2.2.1)
      obtain ⟨S2, hq2, _, _⟩ := hn2
      by_cases hmid : (k : Int) = (n : Int) / 2
      · have hput := qsput_any w1.heap.size w1.heap.size S2 (L ++ [x]) ⟨#[]⟩ w2 hq2 hb2.size (by have := HP.out.2.2.2; simp; omega)
        have hge := hq2.ge (Nat.le_refl _)
        have HP2 := Lib.hid (And.intro hput (And.intro hb2 hge))
        clear hput hb2 hge hq2
        have hm2 : (((k : Int) == (n : Int) / 2) = true) := by simpa using hmid
        clear hmid
        gi_wp2
        refine ⟨trivial, (callsIn_wide.2 HP2.out.1).mono ?_⟩
        rintro e w3 ⟨rfl, hn3⟩
        have hb3 := HP2.out.2.1.trans (hn3.below HP2.out.2.1.size HP2.out.2.2)
        obtain ⟨S3, hq3, _, _⟩ := hn3
        rcases idx_casesS (L ++ [x] ++ [⟨#[]⟩]) ⟨#[]⟩ with ⟨_, h2, _⟩ | ⟨j, h1, h2, _, _, _⟩
        · exact (h2 (by simp)).elim
        have hdr := qsdrop_hit w1.heap.size w1.heap.size S3 (L ++ [x] ++ [⟨#[]⟩]) ⟨#[]⟩ j w3 hq3 hb3.size (by have := HP.out.2.2.2; simp; omega) h1 h2
        have hge := hq3.ge (Nat.le_refl _)
        have HP3 := Lib.hid (And.intro hdr (And.intro hb3 (And.intro hge h2)))
        clear hdr hb3 hge hq3 h1 h2
        gi_wp2
        refine ⟨trivial, (callsIn_wide.2 HP3.out.1).mono ?_⟩
        rintro e w4 ⟨rfl, hn4⟩
        have hb4 := HP3.out.2.1.trans (hn4.below HP3.out.2.1.size HP3.out.2.2.1)
        obtain ⟨S4, hq4, _, _⟩ := hn4
        have HP4 : Hid (FTx w1 w4 (k + 1)) := Lib.hid ⟨S4, _, hq4, by have := HP3.out.2.2.2; have := HP.out.2.2.2; simp at *; omega, hb4⟩
        clear hb4 hq4
        gi_wp2
        go_roundw
        case rel => exact ⟨k + 1, by omega, by go_num, HP4.out⟩
        case measure => simp [intOf]; omega
      · have HP4 : Hid (FTx w1 w2 (k + 1)) := Lib.hid ⟨S2, _, hq2, by have := HP.out.2.2.2; simp at *; omega, hb2⟩
        clear hb2 hq2
        gi_wp2
        go_roundw
        case rel => exact ⟨k + 1, by omega, by go_num, HP4.out⟩
        case measure => simp [intOf]; omega
    · obtain rfl : k = n := by omega
      have hlen := qslen_any w1.heap.size w1.heap.size S L wr hq (by omega)
      rw [hlk] at hlen
      have HQ := Lib.hid (And.intro hq (And.intro hlk hBl))
      have HLEN := Lib.hid hlen
      clear hlen hq hlk hBl
      gi_upto_region 14 with fail
      gi_cut [44] from 200 (fun v wx => v = .bool false ∧ (wx = wr ∨ wx = wr.drew))
      case first =>
        refine wpIn_wide.2 ?_
        by_cases hpos : 0 < k
        · have hne : ((k : Int) != (k : Int)) = false := by simp
          go_wp2_with fail
          refine HLEN.out.mono ?_
          rintro e w2 ⟨rfl, rfl⟩
          go_wp2
          gi_meet
          exact ⟨rfl, .inr rfl⟩
        · go_wp2
          gi_meet
          exact ⟨rfl, .inl rfl⟩
      case rest =>
        obtain ⟨rfl, hwc⟩ := hcut
        have hbc : Below wr.heap.size wr wc := by
          rcases hwc with rfl | rfl
          · exact Below.refl _ _
          · exact (Below.refl _ _).drew
        have hqc := HQ.out.1.up hbc
        have hB2 := sub_trans HQ.out.2.2 hbc
        have hM2 := hM1.later hB2
        have HQC := Lib.hid (And.intro hqc (And.intro HQ.out.2.1 (sub_trans HB1.out hB2)))
        clear hqc
        clear hwc hbc hB2 HQ HLEN hM1 HNEW HR1 HB1
        gi_wp2
        refine ⟨trivial, (callsIn_wide.2 (qsall_any _ _)).mono ?_⟩
        rintro e w' ⟨rfl, rfl⟩
        gi_wp2
        obtain ⟨WA, hWA⟩ : ∃ WA, (wc.alloc (.cells #[.int .i64 0] 3)).alloc (.cells #[.pointer (some ⟨w1.heap.size, 0, none⟩)] 46) = WA := ⟨_, rfl⟩
        have hsz : WA.heap.size = wc.heap.size + 2 := by rw [← hWA]; simp
        have hbA : Below wc.heap.size wc WA := by rw [← hWA]; exact ((Below.refl _ _).alloc (Nat.le_refl _) _).alloc (by simp) _
        have hBn : Boxed WA wc.heap.size 3 (.int .i64 0) := by rw [← hWA]; exact (Boxed.new wc _ _).alloc _
        have hBb : Blk WA (wc.heap.size + 1) 46 #[.pointer (some ⟨w1.heap.size, 0, none⟩)] := by rw [← hWA]; exact Blk.new_at _ _ _ (by simp)
        obtain ⟨vf, vb, f, b, hqa, he, _⟩ := HQC.out.1
        have hqA := hqa.up hbA
        have hinR : ∀ g, InQ w1.heap.size (wc.heap.size + 1) vf vb g → g < WA.heap.size := by
          rintro g (hg | rfl)
          · have := hqa.lt g hg; omega
          · omega
        have hst := qsstops 3 (by decide) (wc.heap.size + 1) w1.heap.size w1.heap.size 46 vf vb f b WA hBb hqA (by rw [← he]; have := HQC.out.2.1; omega)
        rw [← he] at hst
        rw [hWA]
        refine wpIn_rangeFunc_ownG rfl (by decide) (gf := 32) (lb := #[.pointer (some ⟨wc.heap.size + 1, 0, none⟩)]) rfl trivial (enters_of Try.func32 (by kernel_rfl) rfl)
          hst (fun h k => h.trans k) (fun W l o o' hl h1 h2 h3 => Same.put hinR W l o o' hl h1 h2 h3) (Below.refl _ _) (fun _ => rfl)
          (FtI wc WA wc.heap.size) (FtX wc WA wc.heap.size most) (ftI_own (by omega)) (fun c => ftX_own most (by omega) c)
          ⟨⟨hBn, hbA⟩, Same.refl _ _, Nat.le_refl _⟩ ?a1 ?assign ?body ?done ?stop
        case assign =>
          intro l x W K hK
          gi_wp2
          exact hK
        case body =>
          rintro l pre z W ⟨⟨hbx, hBl⟩, hSm, hsW⟩ hlt
          clear hsz
          have hpl : pre.length ≤ 60 := by have := HQC.out.2.1; omega
          have cN := hbx.cell
          have fN := hbx.frozen
          have cM2 := (hM2.later hBl).cell 0
          simp at cM2
          have hneM : w.heap.size ≠ wc.heap.size := Nat.ne_of_lt hM2.lt
          have hbx2 := hbx.set (.int .i64 ((pre.length : Int) + 1))
          have cN2 := hbx2.cell
          have cM3 := ((hM2.later hBl).far (p := ⟨wc.heap.size, 0, none⟩) hneM (.int .i64 ((pre.length : Int) + 1))).cell 0
          simp at cM3
          have hw : IntKind.i64.wrap ((pre.length : Int) + 1) = (pre.length : Int) + 1 := by rw [IntKind.wrap_i64]; omega
          have hK : KeepsFrom WA.heap.size W (W.setCell ⟨wc.heap.size, 0, none⟩ (.int .i64 ((pre.length : Int) + 1))) := (KeepsOthers.setCell W _ _).from _
          have hS : Same (InQ w1.heap.size (wc.heap.size + 1) vf vb) W (W.setCell ⟨wc.heap.size, 0, none⟩ (.int .i64 ((pre.length : Int) + 1))) := by
            intro g hg
            refine Below.heap_setCell W ⟨wc.heap.size, 0, none⟩ _ g ?_
            rcases hg with hg | rfl
            · exact Nat.ne_of_lt (hqa.lt g hg)
            · simp
          have hI : FtI wc WA wc.heap.size (pre ++ [z]) (W.setCell ⟨wc.heap.size, 0, none⟩ (.int .i64 ((pre.length : Int) + 1))) :=
            ⟨⟨by have := hbx2; simpa using this, hBl.setCell (p := ⟨wc.heap.size, 0, none⟩) (Nat.le_refl _) _⟩, hSm.trans (fun g hg => hg.elim), by simpa using hsW⟩
          have HI := Lib.hid (And.intro hK (And.intro hS hI))
          clear hK hS hI hbx2 hst he
          by_cases hm : (pre.length : Int) + 1 = most
          · subst hm
            gi_wp2
            exact ⟨HI.out.1, rfl, HI.out.2.2, by simp⟩
          · gi_wp2
            exact HI.out
        case' done =>
          rintro D ys W hD rfl ⟨⟨hbx, hBl⟩, _, _⟩ hK
          rw [HQC.out.2.1] at hbx
          obtain ⟨N, hN⟩ : ∃ N : Int, N = (k : Int) := ⟨_, rfl⟩
          rw [← hN] at hbx
          have hor : N = (k : Int) ∨ (N ≠ (k : Int) ∧ N = most) := .inl hN
          clear hN
        case' stop =>
          rintro D c2 pre W hD ⟨hS1, _⟩ ⟨rfl, ⟨⟨hbx, hBl⟩, _, _⟩, hm⟩ hK
          rw [← hm] at hbx
          obtain ⟨N, hN⟩ : ∃ N : Int, N = most := ⟨_, rfl⟩
          rw [← hN] at hbx
          have hor : N = (k : Int) ∨ (N ≠ (k : Int) ∧ N = most) := by omega
          clear hN hm hS1
        all_goals
          have hDl : D < W.heap.size := (Array.getElem?_eq_some_iff.1 hK).1
          have hDk : w.heap.size < D := by have := hM2.lt; omega
          have hqW := HQC.out.1.up hBl
          have hle : ∀ W', Below W.heap.size W W' → Calls Try.prog 18 #[.pointer (some ⟨w1.heap.size, 0, none⟩)] W' fun e w' => e = .returned (.int .i64 (k : Int)) ∧ W'.drew = w' := fun W' h => by
            have := qslen_any w1.heap.size w1.heap.size S _ W' (hqW.up h) (by have := HQC.out.2.1; omega)
            rw [HQC.out.2.1] at this
            exact this
          have hM3 := hM2.later hBl
          have HBW := Lib.hid (And.intro (HQC.out.2.2.trans (hBl.mono HQC.out.2.2.size)) (And.intro hM3 hbx))
          have HLE := Lib.hid hle
          have HKD := Lib.hid hK
          have HDL := Lib.hid (And.intro hDk hDl)
          clear hst hBn hbA hBb hqA hinR hsz hqa hqW hle hM2 hM3 hBl hbx hK hDk hDl
          gi_wp2
          refine ⟨trivial, (callsIn_wide.2 (qsget_nil _)).mono ?_⟩
          rintro e w3 ⟨rfl, rfl⟩
          gi_wp2
          refine ⟨trivial, (callsIn_wide.2 (qsfirst_nil _)).mono ?_⟩
          rintro e W3 ⟨rfl, b3⟩
          have HB3 := Lib.hid (And.intro HBW.out.1 b3)
          have hz8 : ∀ W', Below W3.heap.size W3 W' → W'.cell? ⟨wc.heap.size, 0, none⟩ = some (.int .i64 N) := fun W' h => by have h9 : Blk _ _ _ _ := HBW.out.2.2; have := (h9.later (sub_trans b3 h)).cell 0; simpa using this
          have hz3 : ∀ W', Below W3.heap.size W3 W' → W'.cell? ⟨w.heap.size, 0, none⟩ = some (.int .i64 most) := fun W' h => by have := (HBW.out.2.1.later (sub_trans b3 h)).cell 0; simpa using this
          have HZ8 := Lib.hid hz8
          have HZ3 := Lib.hid hz3
          clear hz8 hz3 b3 HBW
          gi_upto_region 23 with fail
          refine wpIn_wide.2 ?_
          have hS0 : Below W3.heap.size W3 W3.drew := (Below.refl _ _).drew
          rcases hor with rfl | ⟨hne, rfl⟩
          · refine any_startN (S := fun W => Below W3.heap.size W3 W) (by kernel_rfl) hS0 ?_
            simp only [List.length_cons, List.length_nil, Nat.reduceAdd, List.size_toArray]
            refine any_pure 0 (v := ?_) rfl (by kernel_rfl) (by intro _ _ _ h; exact h) (by assumption) (by rfl) (fun W hW => ?_) ?_
            rotate_left
            · have hc8 := HZ8.out _ hW; first | (go_simp; done) | (go_simp; with_reducible rfl)
            try simp only [Act.put, List.setIfInBounds_toArray, List.set_cons_zero, List.set_cons_succ]
            refine any_one 1 (by kernel_rfl) rfl (by rfl) (fun K hK => ?_)
            go_simp
            refine (HLE.out _ (sub_trans HB3.out.2 hS0)).mono ?_
            rintro e4 w4 ⟨rfl, rfl⟩
            have hS4 := sub_trans hS0 (Below.refl W3.drew.heap.size W3.drew).drew
            refine hK _ _ hS4 ?_
            clear hK
            try simp only [Act.put, List.setIfInBounds_toArray, List.set_cons_zero, List.set_cons_succ]
            refine any_pure 2 (v := ?_) rfl (by kernel_rfl) (by intro _ _ _ h; exact h) (by assumption) (by rfl) (fun W hW => ?_) ?_
            rotate_left
            · first | (go_simp; done) | (go_simp; with_reducible rfl)
            try simp only [Act.put, List.setIfInBounds_toArray, List.set_cons_zero, List.set_cons_succ]
            refine any_pure 3 (v := ?_) rfl (by kernel_rfl) (by intro _ _ _ h; exact h) (by assumption) (by rfl) (fun W hW => ?_) ?_
            rotate_left
            · first | (go_simp; done) | (go_simp; with_reducible rfl)
            try simp only [Act.put, List.setIfInBounds_toArray, List.set_cons_zero, List.set_cons_succ]
            refine any_skip 4 rfl (by kernel_rfl) (by intro _ _ _ h; exact h) (by assumption) (by rfl) ?_
            try simp only [Act.put, List.setIfInBounds_toArray, List.set_cons_zero, List.set_cons_succ]
            refine any_skip 5 rfl (by kernel_rfl) (by intro _ _ _ h; exact h) (by assumption) (by rfl) ?_
            try simp only [Act.put, List.setIfInBounds_toArray, List.set_cons_zero, List.set_cons_succ]
            refine any_skip 6 rfl (by kernel_rfl) (by intro _ _ _ h; exact h) (by assumption) (by rfl) ?_
            try simp only [Act.put, List.setIfInBounds_toArray, List.set_cons_zero, List.set_cons_succ]
            refine any_pure 7 (v := ?_) rfl (by kernel_rfl) (by intro _ _ _ h; exact h) (by assumption) (by rfl) (fun W hW => ?_) ?_
            rotate_left
            · first | (go_simp; done) | (go_simp; with_reducible rfl)
            try simp only [Act.put, List.setIfInBounds_toArray, List.set_cons_zero, List.set_cons_succ]
            refine any_pure 8 (v := ?_) rfl (by kernel_rfl) (by intro _ _ _ h; exact h) (by assumption) (by rfl) (fun W hW => ?_) ?_
            rotate_left
            · first | (go_simp; done) | (go_simp; with_reducible rfl)
            try simp only [Act.put, List.setIfInBounds_toArray, List.set_cons_zero, List.set_cons_succ]
            refine any_pure 9 (v := ?_) rfl (by kernel_rfl) (by intro _ _ _ h; exact h) (by assumption) (by rfl) (fun W hW => ?_) ?_
            rotate_left
            · first | (go_simp; done) | (go_simp; with_reducible rfl)
            try simp only [Act.put, List.setIfInBounds_toArray, List.set_cons_zero, List.set_cons_succ]
            refine any_pure 10 (v := ?_) rfl (by kernel_rfl) (by intro _ _ _ h; exact h) (by assumption) (by rfl) (fun W hW => ?_) ?_
            rotate_left
            · first | (go_simp; done) | (go_simp; with_reducible rfl)
            try simp only [Act.put, List.setIfInBounds_toArray, List.set_cons_zero, List.set_cons_succ]
            refine any_pure 11 (v := ?_) rfl (by kernel_rfl) (by intro _ _ _ h; exact h) (by assumption) (by rfl) (fun W hW => ?_) ?_
            rotate_left
            · first | (go_simp; done) | (go_simp; with_reducible rfl)
            try simp only [Act.put, List.setIfInBounds_toArray, List.set_cons_zero, List.set_cons_succ]
            refine any_pure 12 (v := ?_) rfl (by kernel_rfl) (by intro _ _ _ h; exact h) (by assumption) (by rfl) (fun W hW => ?_) ?_
            rotate_left
            · first | (go_simp; done) | (go_simp; with_reducible rfl)
            try simp only [Act.put, List.setIfInBounds_toArray, List.set_cons_zero, List.set_cons_succ]
            refine any_pure 13 (v := ?_) rfl (by kernel_rfl) (by intro _ _ _ h; exact h) (by assumption) (by rfl) (fun W hW => ?_) ?_
            rotate_left
            · first | (go_simp; done) | (go_simp; with_reducible rfl)
            try simp only [Act.put, List.setIfInBounds_toArray, List.set_cons_zero, List.set_cons_succ]
            refine any_pure 14 (v := ?_) rfl (by kernel_rfl) (by intro _ _ _ h; exact h) (by assumption) (by rfl) (fun W hW => ?_) ?_
            rotate_left
            · first | (go_simp; done) | (go_simp; with_reducible rfl)
            try simp only [Act.put, List.setIfInBounds_toArray, List.set_cons_zero, List.set_cons_succ]
            refine any_pure 15 (v := ?_) rfl (by kernel_rfl) (by intro _ _ _ h; exact h) (by assumption) (by rfl) (fun W hW => ?_) ?_
            rotate_left
            · first | (go_simp; done) | (go_simp; with_reducible rfl)
            try simp only [Act.put, List.setIfInBounds_toArray, List.set_cons_zero, List.set_cons_succ]
            refine any_pure 16 (v := ?_) rfl (by kernel_rfl) (by intro _ _ _ h; exact h) (by assumption) (by rfl) (fun W hW => ?_) ?_
            rotate_left
            · first | (go_simp; done) | (go_simp; with_reducible rfl)
            try simp only [Act.put, List.setIfInBounds_toArray, List.set_cons_zero, List.set_cons_succ]
            refine any_pure 17 (v := ?_) rfl (by kernel_rfl) (by intro _ _ _ h; exact h) (by assumption) (by rfl) (fun W hW => ?_) ?_
            rotate_left
            · first | (go_simp; done) | (go_simp; with_reducible rfl)
            try simp only [Act.put, List.setIfInBounds_toArray, List.set_cons_zero, List.set_cons_succ]
            refine any_one 18 (by kernel_rfl) rfl (by rfl) (fun K hK => ?_)
            go_simp
            refine (qslen_nil _).mono ?_
            rintro e5 w5 ⟨rfl, rfl⟩
            refine hK _ _ hS4 ?_
            clear hK
            try simp only [Act.put, List.setIfInBounds_toArray, List.set_cons_zero, List.set_cons_succ]
            refine any_pure 19 (v := ?_) rfl (by kernel_rfl) (by intro _ _ _ h; exact h) (by assumption) (by rfl) (fun W hW => ?_) ?_
            rotate_left
            · first | (go_simp; done) | (go_simp; with_reducible rfl)
            try simp only [Act.put, List.setIfInBounds_toArray, List.set_cons_zero, List.set_cons_succ]
            refine any_pure 20 (v := ?_) rfl (by kernel_rfl) (by intro _ _ _ h; exact h) (by assumption) (by rfl) (fun W hW => ?_) ?_
            rotate_left
            · first | (go_simp; done) | (go_simp; with_reducible rfl)
            try simp only [Act.put, List.setIfInBounds_toArray, List.set_cons_zero, List.set_cons_succ]
            refine any_pure 21 (v := ?_) rfl (by kernel_rfl) (by intro _ _ _ h; exact h) (by assumption) (by rfl) (fun W hW => ?_) ?_
            rotate_left
            · first | (go_simp; done) | (go_simp; with_reducible rfl)
            try simp only [Act.put, List.setIfInBounds_toArray, List.set_cons_zero, List.set_cons_succ]
            refine any_pure 22 (v := ?_) rfl (by kernel_rfl) (by intro _ _ _ h; exact h) (by assumption) (by rfl) (fun W hW => ?_) ?_
            rotate_left
            · first | (go_simp; done) | (go_simp; with_reducible rfl)
            try simp only [Act.put, List.setIfInBounds_toArray, List.set_cons_zero, List.set_cons_succ]
            refine any_one 23 (by kernel_rfl) rfl (by rfl) (fun K hK => ?_)
            go_simp
            refine (qsput_nil _ _).mono ?_
            rintro e5 w5 ⟨rfl, rfl⟩
            refine hK _ _ hS4 ?_
            clear hK
            try simp only [Act.put, List.setIfInBounds_toArray, List.set_cons_zero, List.set_cons_succ]
            refine any_pure 24 (v := ?_) rfl (by kernel_rfl) (by intro _ _ _ h; exact h) (by assumption) (by rfl) (fun W hW => ?_) ?_
            rotate_left
            · first | (go_simp; done) | (go_simp; with_reducible rfl)
            try simp only [Act.put, List.setIfInBounds_toArray, List.set_cons_zero, List.set_cons_succ]
            refine any_pure 25 (v := ?_) rfl (by kernel_rfl) (by intro _ _ _ h; exact h) (by assumption) (by rfl) (fun W hW => ?_) ?_
            rotate_left
            · first | (go_simp; done) | (go_simp; with_reducible rfl)
            try simp only [Act.put, List.setIfInBounds_toArray, List.set_cons_zero, List.set_cons_succ]
            refine any_pure 26 (v := ?_) rfl (by kernel_rfl) (by intro _ _ _ h; exact h) (by assumption) (by rfl) (fun W hW => ?_) ?_
            rotate_left
            · first | (go_simp; done) | (go_simp; with_reducible rfl)
            try simp only [Act.put, List.setIfInBounds_toArray, List.set_cons_zero, List.set_cons_succ]
            refine any_pure 27 (v := ?_) rfl (by kernel_rfl) (by intro _ _ _ h; exact h) (by assumption) (by rfl) (fun W hW => ?_) ?_
            rotate_left
            · first | (go_simp; done) | (go_simp; with_reducible rfl)
            try simp only [Act.put, List.setIfInBounds_toArray, List.set_cons_zero, List.set_cons_succ]
            refine any_one 28 (by kernel_rfl) rfl (by rfl) (fun K hK => ?_)
            go_simp
            refine (qsdrop_nil _ _).mono ?_
            rintro e5 w5 ⟨rfl, b5⟩
            have hS5 := sub_trans hS4 b5
            refine hK _ _ hS5 ?_
            clear hK b5
            try simp only [Act.put, List.setIfInBounds_toArray, List.set_cons_zero, List.set_cons_succ]
            refine any_pure 29 (v := ?_) rfl (by kernel_rfl) (by intro _ _ _ h; exact h) (by assumption) (by rfl) (fun W hW => ?_) ?_
            rotate_left
            · first | (go_simp; done) | (go_simp; with_reducible rfl)
            try simp only [Act.put, List.setIfInBounds_toArray, List.set_cons_zero, List.set_cons_succ]
            refine any_pure 30 (v := ?_) rfl (by kernel_rfl) (by intro _ _ _ h; exact h) (by assumption) (by rfl) (fun W hW => ?_) ?_
            rotate_left
            · first | (go_simp; done) | (go_simp; with_reducible rfl)
            try simp only [Act.put, List.setIfInBounds_toArray, List.set_cons_zero, List.set_cons_succ]
            refine any_pure 31 (v := ?_) rfl (by kernel_rfl) (by intro _ _ _ h; exact h) (by assumption) (by rfl) (fun W hW => ?_) ?_
            rotate_left
            · first | (go_simp; done) | (go_simp; with_reducible rfl)
            try simp only [Act.put, List.setIfInBounds_toArray, List.set_cons_zero, List.set_cons_succ]
            refine any_pure 32 (v := ?_) rfl (by kernel_rfl) (by intro _ _ _ h; exact h) (by assumption) (by rfl) (fun W hW => ?_) ?_
            rotate_left
            · first | (go_simp; done) | (go_simp; with_reducible rfl)
            try simp only [Act.put, List.setIfInBounds_toArray, List.set_cons_zero, List.set_cons_succ]
            refine any_one 33 (by kernel_rfl) rfl (by rfl) (fun K hK => ?_)
            go_simp
            refine (qshas_nil _ _).mono ?_
            rintro e6 w6 ⟨rfl, b6⟩
            have hS6 := sub_trans hS5 b6
            refine hK _ _ hS6 ?_
            clear hK b6
            try simp only [Act.put, List.setIfInBounds_toArray, List.set_cons_zero, List.set_cons_succ]
            refine any_pure 34 (v := ?_) rfl (by kernel_rfl) (by intro _ _ _ h; exact h) (by assumption) (by rfl) (fun W hW => ?_) ?_
            rotate_left
            · first | (go_simp; done) | (go_simp; with_reducible rfl)
            try simp only [Act.put, List.setIfInBounds_toArray, List.set_cons_zero, List.set_cons_succ]
            refine any_pure 35 (v := ?_) rfl (by kernel_rfl) (by intro _ _ _ h; exact h) (by assumption) (by rfl) (fun W hW => ?_) ?_
            rotate_left
            · first | (go_simp; done) | (go_simp; with_reducible rfl)
            try simp only [Act.put, List.setIfInBounds_toArray, List.set_cons_zero, List.set_cons_succ]
            refine any_pure 36 (v := ?_) rfl (by kernel_rfl) (by intro _ _ _ h; exact h) (by assumption) (by rfl) (fun W hW => ?_) ?_
            rotate_left
            · first | (go_simp; done) | (go_simp; with_reducible rfl)
            try simp only [Act.put, List.setIfInBounds_toArray, List.set_cons_zero, List.set_cons_succ]
            refine any_done (by kernel_rfl) ?_
            have hb9 := HB3.out.1.trans ((sub_trans HB3.out.2 hS6).mono HB3.out.1.size)
            have hK9 : w6.heap[D]? = some (.deferred (some [])) := ((sub_trans HB3.out.2 hS6).block D HDL.out.2).trans HKD.out
            have hb10 := hb9.trans (belowK_b (w := w) (Nat.le_refl _) _ D _ (.deferred none) (by have := HDL.out.1; omega) hK9 rfl rfl)
            have HF := Lib.hid (And.intro hK9 hb10)
            clear hb9 hK9 hb10
            rw [onlyN_normal]
            gi_wp2
            refine ⟨by simp, .inl ⟨_, _, rfl, run_takeDeferred HF.out.1, ?_⟩⟩
            exact ⟨_, results_tmp rfl _ _ _, by simp, HF.out.2⟩
          · have hnb : (N == (k : Int)) = false := by simpa using hne
            have HNB := Lib.hid hnb
            clear hnb hne
            refine any_startN (S := fun W => Below W3.heap.size W3 W) (by kernel_rfl) hS0 ?_
            simp only [List.length_cons, List.length_nil, Nat.reduceAdd, List.size_toArray]
            refine any_pure 0 (v := ?_) rfl (by kernel_rfl) (by intro _ _ _ h; exact h) (by assumption) (by rfl) (fun W hW => ?_) ?_
            rotate_left
            · have hc8 := HZ8.out _ hW; first | (go_simp; done) | (go_simp; with_reducible rfl)
            try simp only [Act.put, List.setIfInBounds_toArray, List.set_cons_zero, List.set_cons_succ]
            refine any_one 1 (by kernel_rfl) rfl (by rfl) (fun K hK => ?_)
            go_simp
            refine (HLE.out _ (sub_trans HB3.out.2 hS0)).mono ?_
            rintro e4 w4 ⟨rfl, rfl⟩
            have hS4 := sub_trans hS0 (Below.refl W3.drew.heap.size W3.drew).drew
            refine hK _ _ hS4 ?_
            clear hK
            try simp only [Act.put, List.setIfInBounds_toArray, List.set_cons_zero, List.set_cons_succ]
            refine any_pure 2 (v := ?_) rfl (by kernel_rfl) (by intro _ _ _ h; exact h) (by assumption) (by rfl) (fun W hW => ?_) ?_
            rotate_left
            · have hnb := HNB.out; first | (go_simp; done) | (go_simp; with_reducible rfl)
            try simp only [Act.put, List.setIfInBounds_toArray, List.set_cons_zero, List.set_cons_succ]
            refine any_pure 3 (v := ?_) rfl (by kernel_rfl) (by intro _ _ _ h; exact h) (by assumption) (by rfl) (fun W hW => ?_) ?_
            rotate_left
            · first | (go_simp; done) | (go_simp; with_reducible rfl)
            try simp only [Act.put, List.setIfInBounds_toArray, List.set_cons_zero, List.set_cons_succ]
            refine any_pure 4 (v := ?_) rfl (by kernel_rfl) (by intro _ _ _ h; exact h) (by assumption) (by rfl) (fun W hW => ?_) ?_
            rotate_left
            · have hc8 := HZ8.out _ hW; first | (go_simp; done) | (go_simp; with_reducible rfl)
            try simp only [Act.put, List.setIfInBounds_toArray, List.set_cons_zero, List.set_cons_succ]
            refine any_pure 5 (v := ?_) rfl (by kernel_rfl) (by intro _ _ _ h; exact h) (by assumption) (by rfl) (fun W hW => ?_) ?_
            rotate_left
            · have hc3 := HZ3.out _ hW; first | (go_simp; done) | (go_simp; with_reducible rfl)
            try simp only [Act.put, List.setIfInBounds_toArray, List.set_cons_zero, List.set_cons_succ]
            refine any_pure 6 (v := ?_) rfl (by kernel_rfl) (by intro _ _ _ h; exact h) (by assumption) (by rfl) (fun W hW => ?_) ?_
            rotate_left
            · first | (go_simp; done) | (go_simp; with_reducible rfl)
            try simp only [Act.put, List.setIfInBounds_toArray, List.set_cons_zero, List.set_cons_succ]
            refine any_pure 7 (v := ?_) rfl (by kernel_rfl) (by intro _ _ _ h; exact h) (by assumption) (by rfl) (fun W hW => ?_) ?_
            rotate_left
            · first | (go_simp; done) | (go_simp; with_reducible rfl)
            try simp only [Act.put, List.setIfInBounds_toArray, List.set_cons_zero, List.set_cons_succ]
            refine any_pure 8 (v := ?_) rfl (by kernel_rfl) (by intro _ _ _ h; exact h) (by assumption) (by rfl) (fun W hW => ?_) ?_
            rotate_left
            · first | (go_simp; done) | (go_simp; with_reducible rfl)
            try simp only [Act.put, List.setIfInBounds_toArray, List.set_cons_zero, List.set_cons_succ]
            refine any_pure 9 (v := ?_) rfl (by kernel_rfl) (by intro _ _ _ h; exact h) (by assumption) (by rfl) (fun W hW => ?_) ?_
            rotate_left
            · first | (go_simp; done) | (go_simp; with_reducible rfl)
            try simp only [Act.put, List.setIfInBounds_toArray, List.set_cons_zero, List.set_cons_succ]
            refine any_pure 10 (v := ?_) rfl (by kernel_rfl) (by intro _ _ _ h; exact h) (by assumption) (by rfl) (fun W hW => ?_) ?_
            rotate_left
            · first | (go_simp; done) | (go_simp; with_reducible rfl)
            try simp only [Act.put, List.setIfInBounds_toArray, List.set_cons_zero, List.set_cons_succ]
            refine any_pure 11 (v := ?_) rfl (by kernel_rfl) (by intro _ _ _ h; exact h) (by assumption) (by rfl) (fun W hW => ?_) ?_
            rotate_left
            · first | (go_simp; done) | (go_simp; with_reducible rfl)
            try simp only [Act.put, List.setIfInBounds_toArray, List.set_cons_zero, List.set_cons_succ]
            refine any_pure 12 (v := ?_) rfl (by kernel_rfl) (by intro _ _ _ h; exact h) (by assumption) (by rfl) (fun W hW => ?_) ?_
            rotate_left
            · first | (go_simp; done) | (go_simp; with_reducible rfl)
            try simp only [Act.put, List.setIfInBounds_toArray, List.set_cons_zero, List.set_cons_succ]
            refine any_pure 13 (v := ?_) rfl (by kernel_rfl) (by intro _ _ _ h; exact h) (by assumption) (by rfl) (fun W hW => ?_) ?_
            rotate_left
            · first | (go_simp; done) | (go_simp; with_reducible rfl)
            try simp only [Act.put, List.setIfInBounds_toArray, List.set_cons_zero, List.set_cons_succ]
            refine any_pure 14 (v := ?_) rfl (by kernel_rfl) (by intro _ _ _ h; exact h) (by assumption) (by rfl) (fun W hW => ?_) ?_
            rotate_left
            · first | (go_simp; done) | (go_simp; with_reducible rfl)
            try simp only [Act.put, List.setIfInBounds_toArray, List.set_cons_zero, List.set_cons_succ]
            refine any_pure 15 (v := ?_) rfl (by kernel_rfl) (by intro _ _ _ h; exact h) (by assumption) (by rfl) (fun W hW => ?_) ?_
            rotate_left
            · first | (go_simp; done) | (go_simp; with_reducible rfl)
            try simp only [Act.put, List.setIfInBounds_toArray, List.set_cons_zero, List.set_cons_succ]
            refine any_pure 16 (v := ?_) rfl (by kernel_rfl) (by intro _ _ _ h; exact h) (by assumption) (by rfl) (fun W hW => ?_) ?_
            rotate_left
            · first | (go_simp; done) | (go_simp; with_reducible rfl)
            try simp only [Act.put, List.setIfInBounds_toArray, List.set_cons_zero, List.set_cons_succ]
            refine any_pure 17 (v := ?_) rfl (by kernel_rfl) (by intro _ _ _ h; exact h) (by assumption) (by rfl) (fun W hW => ?_) ?_
            rotate_left
            · first | (go_simp; done) | (go_simp; with_reducible rfl)
            try simp only [Act.put, List.setIfInBounds_toArray, List.set_cons_zero, List.set_cons_succ]
            refine any_one 18 (by kernel_rfl) rfl (by rfl) (fun K hK => ?_)
            go_simp
            refine (qslen_nil _).mono ?_
            rintro e5 w5 ⟨rfl, rfl⟩
            refine hK _ _ hS4 ?_
            clear hK
            try simp only [Act.put, List.setIfInBounds_toArray, List.set_cons_zero, List.set_cons_succ]
            refine any_pure 19 (v := ?_) rfl (by kernel_rfl) (by intro _ _ _ h; exact h) (by assumption) (by rfl) (fun W hW => ?_) ?_
            rotate_left
            · first | (go_simp; done) | (go_simp; with_reducible rfl)
            try simp only [Act.put, List.setIfInBounds_toArray, List.set_cons_zero, List.set_cons_succ]
            refine any_pure 20 (v := ?_) rfl (by kernel_rfl) (by intro _ _ _ h; exact h) (by assumption) (by rfl) (fun W hW => ?_) ?_
            rotate_left
            · first | (go_simp; done) | (go_simp; with_reducible rfl)
            try simp only [Act.put, List.setIfInBounds_toArray, List.set_cons_zero, List.set_cons_succ]
            refine any_pure 21 (v := ?_) rfl (by kernel_rfl) (by intro _ _ _ h; exact h) (by assumption) (by rfl) (fun W hW => ?_) ?_
            rotate_left
            · first | (go_simp; done) | (go_simp; with_reducible rfl)
            try simp only [Act.put, List.setIfInBounds_toArray, List.set_cons_zero, List.set_cons_succ]
            refine any_pure 22 (v := ?_) rfl (by kernel_rfl) (by intro _ _ _ h; exact h) (by assumption) (by rfl) (fun W hW => ?_) ?_
            rotate_left
            · first | (go_simp; done) | (go_simp; with_reducible rfl)
            try simp only [Act.put, List.setIfInBounds_toArray, List.set_cons_zero, List.set_cons_succ]
            refine any_one 23 (by kernel_rfl) rfl (by rfl) (fun K hK => ?_)
            go_simp
            refine (qsput_nil _ _).mono ?_
            rintro e5 w5 ⟨rfl, rfl⟩
            refine hK _ _ hS4 ?_
            clear hK
            try simp only [Act.put, List.setIfInBounds_toArray, List.set_cons_zero, List.set_cons_succ]
            refine any_pure 24 (v := ?_) rfl (by kernel_rfl) (by intro _ _ _ h; exact h) (by assumption) (by rfl) (fun W hW => ?_) ?_
            rotate_left
            · first | (go_simp; done) | (go_simp; with_reducible rfl)
            try simp only [Act.put, List.setIfInBounds_toArray, List.set_cons_zero, List.set_cons_succ]
            refine any_pure 25 (v := ?_) rfl (by kernel_rfl) (by intro _ _ _ h; exact h) (by assumption) (by rfl) (fun W hW => ?_) ?_
            rotate_left
            · first | (go_simp; done) | (go_simp; with_reducible rfl)
            try simp only [Act.put, List.setIfInBounds_toArray, List.set_cons_zero, List.set_cons_succ]
            refine any_pure 26 (v := ?_) rfl (by kernel_rfl) (by intro _ _ _ h; exact h) (by assumption) (by rfl) (fun W hW => ?_) ?_
            rotate_left
            · first | (go_simp; done) | (go_simp; with_reducible rfl)
            try simp only [Act.put, List.setIfInBounds_toArray, List.set_cons_zero, List.set_cons_succ]
            refine any_pure 27 (v := ?_) rfl (by kernel_rfl) (by intro _ _ _ h; exact h) (by assumption) (by rfl) (fun W hW => ?_) ?_
            rotate_left
            · first | (go_simp; done) | (go_simp; with_reducible rfl)
            try simp only [Act.put, List.setIfInBounds_toArray, List.set_cons_zero, List.set_cons_succ]
            refine any_one 28 (by kernel_rfl) rfl (by rfl) (fun K hK => ?_)
            go_simp
            refine (qsdrop_nil _ _).mono ?_
            rintro e5 w5 ⟨rfl, b5⟩
            have hS5 := sub_trans hS4 b5
            refine hK _ _ hS5 ?_
            clear hK b5
            try simp only [Act.put, List.setIfInBounds_toArray, List.set_cons_zero, List.set_cons_succ]
            refine any_pure 29 (v := ?_) rfl (by kernel_rfl) (by intro _ _ _ h; exact h) (by assumption) (by rfl) (fun W hW => ?_) ?_
            rotate_left
            · first | (go_simp; done) | (go_simp; with_reducible rfl)
            try simp only [Act.put, List.setIfInBounds_toArray, List.set_cons_zero, List.set_cons_succ]
            refine any_pure 30 (v := ?_) rfl (by kernel_rfl) (by intro _ _ _ h; exact h) (by assumption) (by rfl) (fun W hW => ?_) ?_
            rotate_left
            · first | (go_simp; done) | (go_simp; with_reducible rfl)
            try simp only [Act.put, List.setIfInBounds_toArray, List.set_cons_zero, List.set_cons_succ]
            refine any_pure 31 (v := ?_) rfl (by kernel_rfl) (by intro _ _ _ h; exact h) (by assumption) (by rfl) (fun W hW => ?_) ?_
            rotate_left
            · first | (go_simp; done) | (go_simp; with_reducible rfl)
            try simp only [Act.put, List.setIfInBounds_toArray, List.set_cons_zero, List.set_cons_succ]
            refine any_pure 32 (v := ?_) rfl (by kernel_rfl) (by intro _ _ _ h; exact h) (by assumption) (by rfl) (fun W hW => ?_) ?_
            rotate_left
            · first | (go_simp; done) | (go_simp; with_reducible rfl)
            try simp only [Act.put, List.setIfInBounds_toArray, List.set_cons_zero, List.set_cons_succ]
            refine any_one 33 (by kernel_rfl) rfl (by rfl) (fun K hK => ?_)
            go_simp
            refine (qshas_nil _ _).mono ?_
            rintro e6 w6 ⟨rfl, b6⟩
            have hS6 := sub_trans hS5 b6
            refine hK _ _ hS6 ?_
            clear hK b6
            try simp only [Act.put, List.setIfInBounds_toArray, List.set_cons_zero, List.set_cons_succ]
            refine any_pure 34 (v := ?_) rfl (by kernel_rfl) (by intro _ _ _ h; exact h) (by assumption) (by rfl) (fun W hW => ?_) ?_
            rotate_left
            · first | (go_simp; done) | (go_simp; with_reducible rfl)
            try simp only [Act.put, List.setIfInBounds_toArray, List.set_cons_zero, List.set_cons_succ]
            refine any_pure 35 (v := ?_) rfl (by kernel_rfl) (by intro _ _ _ h; exact h) (by assumption) (by rfl) (fun W hW => ?_) ?_
            rotate_left
            · first | (go_simp; done) | (go_simp; with_reducible rfl)
            try simp only [Act.put, List.setIfInBounds_toArray, List.set_cons_zero, List.set_cons_succ]
            refine any_pure 36 (v := ?_) rfl (by kernel_rfl) (by intro _ _ _ h; exact h) (by assumption) (by rfl) (fun W hW => ?_) ?_
            rotate_left
            · first | (go_simp; done) | (go_simp; with_reducible rfl)
            try simp only [Act.put, List.setIfInBounds_toArray, List.set_cons_zero, List.set_cons_succ]
            refine any_done (by kernel_rfl) ?_
            have hb9 := HB3.out.1.trans ((sub_trans HB3.out.2 hS6).mono HB3.out.1.size)
            have hK9 : w6.heap[D]? = some (.deferred (some [])) := ((sub_trans HB3.out.2 hS6).block D HDL.out.2).trans HKD.out
            have hb10 := hb9.trans (belowK_b (w := w) (Nat.le_refl _) _ D _ (.deferred none) (by have := HDL.out.1; omega) hK9 rfl rfl)
            have HF := Lib.hid (And.intro hK9 hb10)
            clear hb9 hK9 hb10
            rw [onlyN_normal]
            gi_wp2
            refine ⟨by simp, .inl ⟨_, _, rfl, run_takeDeferred HF.out.1, ?_⟩⟩
            exact ⟨_, results_tmp rfl _ _ _, by simp, HF.out.2⟩
theorem fifoTexts_walk (l : List ByteArray) (A : Option Addr) (c : Nat) (most : Int) (w : World) (hr : Reads w w.heap.size 1 A l.length (strs l)) (hl : l.length ≤ maxLen ∧ l.length ≤ c) (hm : In64 most) :
    Calls Try.prog 4 #[.slice A l.length c, .int .i64 most] w fun e w' => e = .returned (.bool true) ∧ Below w.heap.size w w' := by
  by_cases hb : 60 < l.length
  · exact ftexts_long l A c most w hl.1 hb
  · exact ftexts_few l A c most w hr (by omega)
end Go.Proofs.Ytnikpgngaoaiiaa
