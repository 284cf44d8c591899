/-
  RingTells walked. Condition: none.
-/
import Derived.Test.YtgmgddccdfmiiaaRingT
import Derived.Sort.CutIn
namespace Go.Proofs.Ytgmgddccdfmiiaa
open Go.RowKit Go.Shelf Go.Fw
set_option maxHeartbeats 2000000
set_option maxRecDepth 100000
set_option linter.unusedVariables false
set_option linter.unusedSimpArgs false
attribute [local go_sem] Oper.semAt_some
/-- what the law wants: a row that lies, and the variable that leads to it -/
def WantAt (ws wx : World) (want : List ByteArray) (nw : Nat) : Prop := ∃ Aw cw, Blk wx ws.heap.size 22 #[.slice Aw nw cw] ∧ Below ws.heap.size ws wx ∧ Reads ws ws.heap.size 1 Aw nw (strs want) ∧ nw ≤ cw
theorem boxed_own {β : Type} (B Bn : Nat) (t : TypeId) (f : β → Value) : OwnFrom B (fun (s : β) W => Boxed W Bn t (f s)) := fun s W W' row hs hg hr => hs.kept hg fun e => by
  obtain ⟨_, o, ho, hc⟩ := hr Bn e.symm
  have h2 := ho.symm.trans hs
  cases h2
  simp [Obj.isCells] at hc
theorem same_ownS {S : Nat → Prop} {B : Nat} (W0 : World) (hS : ∀ k, S k → k < B) : OwnFrom B (fun (_ : List ByteArray) W => Same S W0 W ∧ B ≤ W.heap.size) := fun s W W' row hs hg hr =>
  ⟨fun k hk => (hg.block k (by have := hS k hk; have := hs.2; omega) (fun e => by have := (hr k e.symm).1; have := hS k hk; omega)).trans (hs.1 k hk), Nat.le_trans hs.2 hg.size⟩
theorem boxed_blk {W : World} {B : Nat} {t : TypeId} {v : Value} (h : Boxed W B t v) : Blk W B t #[v] := h
/-- what holds ahead of a round: what came is the front of what is wanted, and as much was counted -/
def TellI (wc WA : World) (want : List ByteArray) (Bn Bb : Nat) (pre : List ByteArray) (W : World) : Prop :=
  ((Boxed W Bn 3 (.int .i64 (pre.length : Int)) ∧ pre <+: want) ∧ Below wc.heap.size wc W) ∧ (Same (fun k => k = Bb) WA W ∧ WA.heap.size ≤ W.heap.size)
def TellX (wc WA : World) (want : List ByteArray) (Bn Bb : Nat) (most : Int) (c : Code) (pre : List ByteArray) (W : World) : Prop :=
  (c = .ret ∧ ¬ pre <+: want) ∨ (c = .exit 2 ∧ TellI wc WA want Bn Bb pre W ∧ most = (pre.length : Int))
theorem tellI_own {wc WA : World} (want : List ByteArray) {Bn Bb : Nat} (h1 : wc.heap.size ≤ WA.heap.size) (h2 : Bb < WA.heap.size) : OwnFrom WA.heap.size (TellI wc WA want Bn Bb) :=
  OwnFrom.and (OwnFrom.and (OwnFrom.and (boxed_own _ _ _ _) (ownFrom_pure _ _)) (ownFrom_below (Nat.le_refl _) h1)) (same_ownS WA fun k hk => by subst hk; exact h2)
theorem tellX_own {wc WA : World} (want : List ByteArray) {Bn Bb : Nat} (most : Int) (h1 : wc.heap.size ≤ WA.heap.size) (h2 : Bb < WA.heap.size) (c : Code) : OwnFrom WA.heap.size (TellX wc WA want Bn Bb most c) := fun s W W' row hs hg hr => by
  rcases hs with hs | ⟨e, hs, hm⟩
  · exact .inl hs
  · exact .inr ⟨e, tellI_own want h1 h2 s W W' row hs hg hr, hm⟩
theorem toList_ne {a b : ByteArray} (h : ¬ a = b) : (a.toList == b.toList) = false := by
  rw [beq_eq_false_iff_ne]
  intro e
  rw [ByteArray.toList_eq, ByteArray.toList_eq] at e
  exact h (Go.WideShapes.bytes_inj e)
theorem prefix_next {α : Type} {pre L : List α} (h : pre <+: L) (hl : pre.length < L.length) : pre ++ [L[pre.length]] <+: L := by
  obtain ⟨t, rfl⟩ := h
  cases t with
  | nil => simp at hl
  | cons y t => exact ⟨t, by simp⟩
theorem prefix_same {α : Type} {pre L : List α} {x : α} (h : pre ++ [x] <+: L) (hl : pre.length < L.length) : x = L[pre.length] := by
  obtain ⟨t, rfl⟩ := h
  simp
theorem wantAt_of (ws : World) (want : List ByteArray) (nw : Nat) (Aw : Option Addr) (cw : Nat) (h : Reads ws ws.heap.size 1 Aw nw (strs want)) (hc : nw ≤ cw) : WantAt ws (ws.alloc (.cells #[.slice Aw nw cw] 22)) want nw :=
  ⟨Aw, cw, Blk.new_at _ _ _ rfl, sub_alloc (Below.refl _ _) _, h, hc⟩
theorem ringTells_early (n : Int) (l : List ByteArray) (A : Option Addr) (c : Nat) (i most : Int) (w : World) (h : ¬ (1 ≤ n ∧ n ≤ 60 ∧ l.length ≤ 60)) (hl : l.length ≤ maxLen ∧ l.length ≤ c) :
    Calls Try.prog 3 #[.int .i64 n, .slice A l.length c, .int .i64 i, .int .i64 most] w fun e w' => e = .returned (.bool true) ∧ Below w.heap.size w w' := by
  obtain ⟨hl63, hlc⟩ := hl
  unfold maxLen at hl63
  by_cases hroom : 1 ≤ n ∧ n ≤ 4096
  · obtain ⟨k, rfl⟩ : ∃ k : Nat, n = (k : Int) := ⟨n.toNat, by omega⟩
    have hk1 : 1 ≤ k := by omega
    have hk2 : k ≤ 4096 := by omega
    have hor : (60 : Int) < (l.length : Int) ∨ (¬ (60 : Int) < (l.length : Int) ∧ (60 : Int) < (k : Int)) := by omega
    clear h hroom
    rcases hor with h1 | ⟨h1, h2⟩
    all_goals
      go_enter Try.func3, Try.ntmps3
      have hb0 : Below w.heap.size w ((w.alloc (.cells #[.int .i64 most] 3)).alloc (.cells #[.bool false] 4)) := ((Below.refl _ w).alloc (Nat.le_refl _) _).alloc (by simp) _
      have hB : Blk ((w.alloc (.cells #[.int .i64 most] 3)).alloc (.cells #[.bool false] 4)) (w.heap.size + 1) 4 #[.bool false] := Blk.new_at _ _ _ (by simp)
      go_wp2_with fail
      refine (rawake_any _).mono ?_
      rintro e w1 ⟨rfl, hb⟩
      have hb1 := sub_trans hb0 hb
      have hB1 := hB.later hb
      clear hb hb0 hB
      go_wp2_with fail
      refine (snew_yes k w1 hk1 hk2).mono ?_
      rintro e w2 ⟨rfl, rfl⟩
      have hB2 := hB1.alloc (.cells #[.slice none 0 0, .int .i64 0, .int .i64 (k : Int)] 71)
      have hb2 := sub_alloc hb1 (.cells #[.slice none 0 0, .int .i64 0, .int .i64 (k : Int)] 71)
      generalize w1.alloc (.cells #[.slice none 0 0, .int .i64 0, .int .i64 (k : Int)] 71) = w2 at *
      have c0 := hB2.cell 0
      have f0 := hB2.frozen 0
      simp at c0
      go_wp2
      have z0 := (hB2.set_ 0 (.bool true)).cell 0
      simp at z0
      refine bodyPost_ret (v := .bool true) (by simp [results, Try.results3, go_sem, z0]) rfl ⟨rfl, ?_⟩
      exact hb2.setCell (p := ⟨w.heap.size + 1, 0, none⟩) (Nat.le_succ _) _
  · go_enter Try.func3, Try.ntmps3
    have hb0 : Below w.heap.size w ((w.alloc (.cells #[.int .i64 most] 3)).alloc (.cells #[.bool false] 4)) := ((Below.refl _ w).alloc (Nat.le_refl _) _).alloc (by simp) _
    have hB : Blk ((w.alloc (.cells #[.int .i64 most] 3)).alloc (.cells #[.bool false] 4)) (w.heap.size + 1) 4 #[.bool false] := Blk.new_at _ _ _ (by simp)
    go_wp2_with fail
    refine (rawake_any _).mono ?_
    rintro e w1 ⟨rfl, hb⟩
    have hb2 := sub_trans hb0 hb
    have hB2 := hB.later hb
    clear hb hb0 hB
    have c0 := hB2.cell 0
    have f0 := hB2.frozen 0
    simp at c0
    go_wp2_with fail
    refine (snew_no n w1 hroom).mono ?_
    rintro e w2 ⟨rfl, rfl⟩
    go_wp2
    have z0 := (hB2.set_ 0 (.bool true)).cell 0
    simp at z0
    refine bodyPost_ret (v := .bool true) (by simp [results, Try.results3, go_sem, z0]) rfl ⟨rfl, ?_⟩
    exact hb2.setCell (p := ⟨w.heap.size + 1, 0, none⟩) (Nat.le_succ _) _
theorem ringTells_late (k : Nat) (l : List ByteArray) (A : Option Addr) (c : Nat) (i most : Int) (w : World) (hk1 : 1 ≤ k) (hk2 : k ≤ 60) (hll : l.length ≤ 60) (hl : l.length ≤ c) (hr : Reads w w.heap.size 1 A l.length (strs l))
    (hi : -9223372036854775808 ≤ i ∧ i ≤ 9223372036854775807) :
    Calls Try.prog 3 #[.int .i64 (k : Int), .slice A l.length c, .int .i64 i, .int .i64 most] w fun e w' => e = .returned (.bool true) ∧ Below w.heap.size w w' := by
  refine (callsIn_wide (n := 4)).1 ?_
  refine callsIn_of_wp_marks Try.func3 rfl trivial ?_ rfl
  simp only [Try.ntmps3, List.size_toArray, List.length_cons, List.length_nil, Nat.reduceAdd, Nat.reduceSub, Array.replicate_succ, Array.replicate_zero, List.push_toArray, List.append_toArray, List.nil_append, List.cons_append]
  have hb0 : Below w.heap.size w ((w.alloc (.cells #[.int .i64 most] 3)).alloc (.cells #[.bool false] 4)) := ((Below.refl _ w).alloc (Nat.le_refl _) _).alloc (by simp) _
  have hB : Blk ((w.alloc (.cells #[.int .i64 most] 3)).alloc (.cells #[.bool false] 4)) (w.heap.size + 1) 4 #[.bool false] := Blk.new_at _ _ _ (by simp)
  have hM : Blk ((w.alloc (.cells #[.int .i64 most] 3)).alloc (.cells #[.bool false] 4)) w.heap.size 3 #[.int .i64 most] := (Blk.new_at _ _ _ rfl).alloc _
  have h60 : ¬ (60 : Int) < (l.length : Int) := by omega
  have h61 : ¬ (60 : Int) < (k : Int) := by omega
  gi_wp2
  refine ⟨trivial, (callsIn_wide.2 (rawake_any _)).mono ?_⟩
  rintro e w1 ⟨rfl, hb⟩
  have hb1 := sub_trans hb0 hb
  have hB1 := hB.later hb
  have hM1 := hM.later hb
  have HB1 := Lib.hid hb1
  have HR1 := Lib.hid (hr.up hb1)
  have HNEW := Lib.hid (rgInS_new w1 k hk1 (by omega))
  clear hb hb0 hB hM hr hb1
  gi_wp2
  refine ⟨trivial, (callsIn_wide.2 (snew_yes k w1 hk1 (by omega))).mono ?_⟩
  rintro e w2 ⟨rfl, rfl⟩
  generalize w1.alloc (.cells #[.slice none 0 0, .int .i64 0, .int .i64 (k : Int)] 71) = w2 at *
  generalize hnl : l.length = L at *
  have HN := Lib.hid hnl
  clear hnl
  gi_wp2
  gi_loopw [36] (fun j wr => ∃ (q : Nat), q ≤ L ∧ j = .int .i64 q ∧ RgInS w1 wr k (l.take q)) (fun j _ => L - (intOf j).toNat)
  case atStart => exact ⟨0, Nat.zero_le _, rfl, by simpa using HNEW.out⟩
  case round =>
    obtain ⟨q, hq, rfl, hRq⟩ := hrel
    by_cases hlt : q < L
    · have hkl : q < l.length := by have := HN.out; omega
      have hBl : Below w1.heap.size w1 wr := by obtain ⟨_, _, _, _, _, h⟩ := hRq; exact h
      obtain ⟨ad, u, rfl, _, hux, hc⟩ := (HR1.out.up hBl).at_ hlt
      obtain rfl := strs_get hux hkl
      have htk : l.take (q + 1) = l.take q ++ [l[q]] := List.take_succ_eq_append_getElem hkl
      have hpu := rgInS_push _ _ _ _ hRq l[q]
      rw [← htk] at hpu
      have HPU := Lib.hid hpu
      clear hpu htk hux hRq hBl
      generalize l[q] = x at *
      gi_wp2
      refine ⟨trivial, (callsIn_wide.2 HPU.out).mono ?_⟩
      rintro e w3 ⟨⟨y3, b3, rfl⟩, h3⟩
      have H3 := Lib.hid h3
      clear h3
      gi_wp2
      go_roundw
      case rel => exact ⟨q + 1, by omega, by go_num, H3.out⟩
      case measure => simp [intOf]; omega
    · rw [List.take_of_length_le (by have := HN.out; omega)] at hRq
      obtain ⟨sl, r, hR, hrm, hrl, hBl⟩ := hRq
      have hwl : (lastN l k).length = L - (L - k) := by rw [lastN_length, HN.out]; omega
      have hRr := HR1.out.up hBl
      have hcut := hRr.cut (k := L - k) (cap := c) (by omega) hl
      rw [Nat.mul_one] at hcut
      have hd : (strs l).drop (L - k) = strs (lastN l k) := by unfold lastN; rw [HN.out]; simp [strs]
      rw [hd] at hcut
      have hwant : (lastN l k).length = L - (L - k) := hwl
      have HRG := Lib.hid (And.intro hR (And.intro hrm hrl))
      have HBL := Lib.hid hBl
      have hB2 := hB1.later hBl
      have hM2 := hM1.later hBl
      obtain ⟨ws, rfl⟩ : ∃ ws, ws = wr := ⟨_, rfl⟩
      have HC := Lib.hid (And.intro hcut (And.intro hwl hRr))
      clear hcut hwl hd hRr hR hrm hrl hBl hB1 hM1 hwant
      gi_upto_region 11 with fail
      gi_cut [12] from 200 (fun v wx => v = .pointer (some ⟨ws.heap.size, 0, none⟩) ∧ WantAt ws wx (lastN l k) (L - (L - k)))
      case first =>
        have hA2 := fun (v : Value) => (Blk.new_at ws 22 #[v] (g := ws.heap.size) rfl)
        by_cases hkL : k < L
        · have hw1 : IntKind.i64.wrap ((L : Int) - (k : Int)) = ((L - k : Nat) : Int) := by rw [IntKind.wrap_i64]; omega
          have hw3 : L - k ≤ L := by omega
          have hw4 : L - k ≤ c := by omega
          have hw5 : 0 < L - k := by omega
          have hcL : ¬ c = L - k := by omega
          generalize L - k = j0 at *
          gi_wp2
          gi_meet
          have hc1 := HC.out.1
          rw [if_neg hcL] at hc1
          exact ⟨rfl, wantAt_of _ _ _ _ _ hc1 (by omega)⟩
        · have hz : L - k = 0 := by omega
          have hw1 : IntKind.i64.wrap ((L : Int) - (k : Int)) = (L : Int) - (k : Int) := by rw [IntKind.wrap_i64]; omega
          have hwl : lastN l k = l := by unfold lastN; rw [HN.out, hz]; rfl
          have HC1 := Lib.hid (And.intro hwl HC.out.2.2)
          clear HC hz hwl
          gi_wp2
          gi_meet
          rw [show L - (L - k) = L by omega, HC1.out.1]
          exact ⟨rfl, wantAt_of _ _ _ _ _ HC1.out.2 hl⟩
      case rest =>
        have hwn := HC.out.2.1
        generalize L - (L - k) = nw at *
        obtain ⟨rfl, Aw, cw, hWb, hWbl, hWr, hWc⟩ := hcut
        have hR2 := HRG.out.1.up hWbl
        have hrl2 := HRG.out.2.2
        have hnw : nw ≤ 60 := by rw [← hwn, lastN_length]; omega
        generalize lastN l k = want at *
        have hat := sat_all _ _ sl r i wc hR2
        rw [hrl2] at hat
        have HRW := Lib.hid (And.intro hR2 hrl2)
        have HAT := Lib.hid hat
        have HWR := Lib.hid (hWr.up hWbl)
        have HWN := Lib.hid hwn
        have HBL2 := Lib.hid (sub_trans HBL.out hWbl)
        have hB3 := hB2.later hWbl
        have hM3 := hM2.later hWbl
        clear HC hR2 hrl2 hat hWr hWbl hwn HRG HBL hB2 hM2
        gi_wp2
        refine ⟨trivial, (callsIn_wide.2 HAT.out).mono ?_⟩
        rintro e w3 ⟨⟨x, b, rfl, ht⟩, hb3⟩
        have HT1 := Lib.hid ht
        have hla := slast_all _ _ sl r w3 (HRW.out.1.up hb3)
        rw [HRW.out.2] at hla
        have HLA := Lib.hid hla
        clear ht hla
        gi_wp2
        refine ⟨trivial, (callsIn_wide.2 HLA.out).mono ?_⟩
        rintro e w4 ⟨⟨y, b2, rfl, ht⟩, hb4⟩
        have HT2 := Lib.hid ht
        have hb34 := sub_trans hb3 hb4
        have HW4 := Lib.hid (HWR.out.up hb34)
        have HRW4 := Lib.hid (HRW.out.1.up hb34)
        have HBL4 := Lib.hid (sub_trans HBL2.out hb34)
        have hB4 := hB3.later hb34
        have hM4 := hM3.later hb34
        have hW4 := hWb.later hb34
        clear hB3 hM3 hWb hb3 hb4 hb34 ht HBL2 HWR
        have cW := hW4.cell 0
        simp at cW
        gi_upto_region 14 with fail
        gi_cut [118] from 200 (fun v wx => v = .bool false ∧ wx = w4)
        case first =>
          rw [HWN.out] at HT2
          have h1 := HT1.out
          have h2 := HT2.out
          unfold Tells at h1 h2
          rcases h1 with ⟨rfl, j, rfl, hj, hx⟩ | ⟨rfl, hx, hj⟩ <;> rcases h2 with ⟨rfl, j2, hj2e, hj2, hy⟩ | ⟨rfl, hy, hj2⟩
          · have hjn : j < nw := by have := HWN.out; omega
            have hj2n : j2 < nw := by have := HWN.out; omega
            obtain ⟨ad, u, rfl, _, hux, hc⟩ := HW4.out.at_ hjn
            obtain ⟨ad2, u2, e2, _, hux2, hc2⟩ := HW4.out.at_ hj2n
            injection e2 with e2
            subst e2
            obtain rfl := strs_get hux hj
            obtain rfl := strs_get hux2 hj2
            subst hx hy
            have hw : IntKind.i64.wrap ((nw : Int) - 1) = (j2 : Int) := by rw [IntKind.wrap_i64]; omega
            have hpos : (0 : Int) < (nw : Int) := by omega
            have hjI : (j : Int) < (nw : Int) := by omega
            have hj2I : (j2 : Int) < (nw : Int) := by omega
            generalize want[j] = x at *
            generalize want[j2] = y at *
            clear hux hux2 hj2e hjn hj2n hj hj2
            gi_wp2
            gi_meet
            exact ⟨rfl, rfl⟩
          · exfalso
            have := HWN.out
            omega
          · have hj2n : j2 < nw := by have := HWN.out; omega
            rw [HWN.out] at hj
            obtain ⟨ad, u2, rfl, _, hux2, hc2⟩ := HW4.out.at_ hj2n
            obtain rfl := strs_get hux2 hj2
            subst hx hy
            have hw : IntKind.i64.wrap ((nw : Int) - 1) = (j2 : Int) := by rw [IntKind.wrap_i64]; omega
            have hpos : (0 : Int) < (nw : Int) := by omega
            have hj2I : (j2 : Int) < (nw : Int) := by omega
            generalize want[j2] = y at *
            have hor : i < 0 ∨ (0 ≤ i ∧ ¬ i < (nw : Int)) := by omega
            clear hux2 hj2e hj2n hj hj2
            rcases hor with ho | ⟨ho, ho2⟩
            all_goals
              gi_wp2
              gi_meet
              first | exact ⟨rfl, rfl⟩ | exact ⟨by simp; omega, rfl⟩
          · rw [HWN.out] at hj2
            have hn0 : nw = 0 := by omega
            subst hn0
            rw [HWN.out] at hj
            subst hx hy
            have hor : i < 0 ∨ (0 ≤ i ∧ ¬ i < 0) := by omega
            clear hj hj2
            rcases hor with ho | ⟨ho, ho2⟩
            all_goals
              gi_wp2
              gi_meet
              first | exact ⟨rfl, rfl⟩ | exact ⟨by simp; omega, rfl⟩
        case rest =>
          obtain ⟨rfl, rfl⟩ := hcut
          clear HT1 HT2
          gi_wp2
          refine ⟨trivial, (callsIn_wide.2 (sall_any _ _)).mono ?_⟩
          rintro e w' ⟨rfl, rfl⟩
          gi_wp2
          obtain ⟨WA, hWA⟩ : ∃ WA, (wc.alloc (.cells #[.int .i64 0] 3)).alloc (.cells #[.pointer (some ⟨w1.heap.size, 0, none⟩)] 24) = WA := ⟨_, rfl⟩
          have hsz : WA.heap.size = wc.heap.size + 2 := by rw [← hWA]; simp
          have hbA : Below wc.heap.size wc WA := by rw [← hWA]; exact ((Below.refl _ _).alloc (Nat.le_refl _) _).alloc (by simp) _
          have hBn : Boxed WA wc.heap.size 3 (.int .i64 0) := by rw [← hWA]; exact (Boxed.new wc _ _).alloc _
          have hBb : Blk WA (wc.heap.size + 1) 24 #[.pointer (some ⟨w1.heap.size, 0, none⟩)] := by rw [← hWA]; exact Blk.new_at _ _ _ (by simp)
          have hRA := HRW4.out.up hbA
          have hlt1 := HRW4.out.blk.lt
          have hlt2 := fun k hk => (HRW4.out.own.lt k hk).2
          have hrl := HRW.out.2
          have hinR : ∀ k, InRg w1.heap.size (wc.heap.size + 1) sl k → k < WA.heap.size := by
            rintro k ((rfl | hk) | rfl)
            · omega
            · have := hlt2 k hk; omega
            · omega
          rw [hWA]
          refine wpIn_rangeFunc_ownG rfl (by decide) (gf := 45) (lb := #[.pointer (some ⟨wc.heap.size + 1, 0, none⟩)]) rfl trivial (enters_of Try.func45 (by kernel_rfl) rfl)
            (sstops 3 (by decide) (wc.heap.size + 1) w1.heap.size w1.heap.size 24 sl r WA hBb hRA) (fun h k => h.trans k) (fun W l o o' hl h1 h2 h3 => Same.put hinR W l o o' hl h1 h2 h3) (Below.refl _ _) (fun _ => rfl)
            (TellI wc WA want wc.heap.size (wc.heap.size + 1)) (TellX wc WA want wc.heap.size (wc.heap.size + 1) most) (tellI_own want (by omega) (by omega)) (fun c => tellX_own want most (by omega) (by omega) c)
            ⟨⟨⟨hBn, List.nil_prefix⟩, hbA⟩, Same.refl _ _, Nat.le_refl _⟩ ?a1 ?assign ?body ?done ?stop
          case assign =>
            intro l x W K hK
            gi_wp2
            exact hK
          case body =>
            rintro l pre z W ⟨⟨⟨hbx, hpre⟩, hBl⟩, hSm, hsW⟩ hlt
            have hpw : pre.length < want.length := by rw [← hrl]; exact hlt
            clear hsz
            have hpn : pre.length < nw := by have := HWN.out; omega
            obtain ⟨ad, u, rfl, _, hux, hc⟩ := (HW4.out.up hBl).at_ hpn
            obtain rfl := strs_get hux hpw
            have cN := hbx.cell
            have fN := hbx.frozen
            have cW2 := (hW4.later hBl).cell 0
            have cM2 := (hM4.later hBl).cell 0
            have cB2 := (hB4.later hBl).cell 0
            have fB2 := (hB4.later hBl).frozen 0
            simp at cW2 cM2 cB2
            have hneM : w.heap.size ≠ wc.heap.size := Nat.ne_of_lt hM4.lt
            have hbx2 := hbx.set (.int .i64 ((pre.length : Int) + 1))
            have cN2 := hbx2.cell
            have cM3 := ((hM4.later hBl).far (p := ⟨wc.heap.size, 0, none⟩) hneM (.int .i64 ((pre.length : Int) + 1))).cell 0
            simp at cM3
            have hw : IntKind.i64.wrap ((pre.length : Int) + 1) = (pre.length : Int) + 1 := by rw [IntKind.wrap_i64]; omega
            have hge : ¬ (nw : Int) ≤ (pre.length : Int) := by omega
            have hlt3 : (pre.length : Int) < (nw : Int) := by omega
            have HP := Lib.hid (And.intro hpre hpw)
            by_cases hx : z = want[pre.length]
            · have hnx := prefix_next hpre hpw
              rw [← hx] at hnx
              rw [← hx] at hc
              have hK : KeepsFrom WA.heap.size W (W.setCell ⟨wc.heap.size, 0, none⟩ (.int .i64 ((pre.length : Int) + 1))) := (KeepsOthers.setCell W _ _).from _
              have hS : Same (InRg w1.heap.size (wc.heap.size + 1) sl) W (W.setCell ⟨wc.heap.size, 0, none⟩ (.int .i64 ((pre.length : Int) + 1))) := by
                intro g hg
                refine Below.heap_setCell W ⟨wc.heap.size, 0, none⟩ _ g ?_
                rcases hg with (rfl | hk) | rfl
                · exact Nat.ne_of_lt hlt1
                · exact Nat.ne_of_lt (hlt2 g hk)
                · simp
              have hI : TellI wc WA want wc.heap.size (wc.heap.size + 1) (pre ++ [z]) (W.setCell ⟨wc.heap.size, 0, none⟩ (.int .i64 ((pre.length : Int) + 1))) :=
                ⟨⟨⟨by have := hbx2; simpa using this, hnx⟩, hBl.setCell (p := ⟨wc.heap.size, 0, none⟩) (Nat.le_refl _) _⟩, hSm.trans (fun g hg => by subst hg; exact Below.heap_setCell W ⟨wc.heap.size, 0, none⟩ _ _ (by simp)), by simpa using hsW⟩
              have HI := Lib.hid (And.intro hK (And.intro hS hI))
              clear hx hux hpre hpw hnx hK hS hI hbx2
              by_cases hm : (pre.length : Int) + 1 = most
              · subst hm
                gi_wp2
                exact ⟨HI.out.1, .inr ⟨rfl, HI.out.2.2, by simp⟩⟩
              · gi_wp2
                exact HI.out
            · have hnp : ¬ pre ++ [z] <+: want := fun h => hx (prefix_same h hpw)
              have hx2 := toList_ne hx
              generalize want[pre.length] = y2 at *
              have HNP := Lib.hid hnp
              clear hux hpre hpw hnp
              gi_wp2
              exact ⟨(KeepsOthers.setCell W _ _).from _, .inl ⟨rfl, HNP.out⟩⟩
          case done =>
            rintro D ys W hD rfl ⟨⟨⟨hbx, _⟩, hBl⟩, _, _⟩ hK
            have hrn : r.list.length = nw := by rw [hrl, HWN.out]
            rw [hrn] at hbx
            have cN := hbx.cell
            have cW2 := (hW4.later hBl).cell 0
            have cM2 := (hM4.later hBl).cell 0
            have cB2 := (hB4.later hBl).cell 0
            have fB2 := (hB4.later hBl).frozen 0
            simp at cW2 cM2 cB2
            have hB5 := (hB4.later hBl).set_ 0 (.bool true)
            have hDn : w.heap.size + 1 < D := by have := hB4.lt; omega
            have hK2 : (W.setCell ⟨w.heap.size + 1, 0, none⟩ (.bool true)).heap[D]? = some (.deferred (some [])) := (Below.heap_setCell W ⟨w.heap.size + 1, 0, none⟩ _ D (by simp; omega)).trans hK
            have hB6 : Blk ((W.setCell ⟨w.heap.size + 1, 0, none⟩ (.bool true)).putObj D (.deferred none)) (w.heap.size + 1) 4 #[.bool true] := (World.putObj_heap_other (by omega)).trans (show Blk (W.setCell ⟨w.heap.size + 1, 0, none⟩ (.bool true)) (w.heap.size + 1) 4 #[.bool true] by simpa using hB5)
            have z0 := hB6.cell 0
            simp at z0
            have hbw : Below w.heap.size w W := (HB1.out.trans (HBL4.out.mono HB1.out.size)).trans (hBl.mono (HB1.out.trans (HBL4.out.mono HB1.out.size)).size)
            have hbw2 := hbw.setCell (p := ⟨w.heap.size + 1, 0, none⟩) (Nat.le_succ _) (.bool true)
            have hbw3 := hbw2.trans (belowK_b (w := w) (Nat.le_refl _) _ D _ (.deferred none) (by omega) hK2 rfl rfl)
            have HF := Lib.hid (And.intro hK2 (And.intro z0 hbw3))
            clear hB5 hK2 hB6 z0 hbw hbw2 hbw3 hsz
            gi_wp2
            refine ⟨by simp, .inl ⟨_, _, rfl, run_takeDeferred HF.out.1, ?_⟩⟩
            have z0 := HF.out.2.1
            exact ⟨.bool true, by simp [results, Try.results3, go_sem, z0], rfl, HF.out.2.2⟩
          case stop =>
            rintro D c pre W hD ⟨hS1, _⟩ hX hK
            rcases hX with ⟨rfl, hnp⟩ | ⟨rfl, ⟨⟨⟨hbx, _⟩, hBl⟩, _, _⟩, hm⟩
            · exact (hnp (by rw [← hrl]; exact hS1)).elim
            · have cN := hbx.cell
              have cW2 := (hW4.later hBl).cell 0
              have cM2 := (hM4.later hBl).cell 0
              have cB2 := (hB4.later hBl).cell 0
              have fB2 := (hB4.later hBl).frozen 0
              simp at cW2 cM2 cB2
              have hB5 := (hB4.later hBl).set_ 0 (.bool true)
              have hDn : w.heap.size + 1 < D := by have := hB4.lt; omega
              have hK2 : (W.setCell ⟨w.heap.size + 1, 0, none⟩ (.bool true)).heap[D]? = some (.deferred (some [])) := (Below.heap_setCell W ⟨w.heap.size + 1, 0, none⟩ _ D (by simp; omega)).trans hK
              have hB6 : Blk ((W.setCell ⟨w.heap.size + 1, 0, none⟩ (.bool true)).putObj D (.deferred none)) (w.heap.size + 1) 4 #[.bool true] := (World.putObj_heap_other (by omega)).trans (show Blk (W.setCell ⟨w.heap.size + 1, 0, none⟩ (.bool true)) (w.heap.size + 1) 4 #[.bool true] by simpa using hB5)
              have z0 := hB6.cell 0
              simp at z0
              have hbw : Below w.heap.size w W := (HB1.out.trans (HBL4.out.mono HB1.out.size)).trans (hBl.mono (HB1.out.trans (HBL4.out.mono HB1.out.size)).size)
              have hbw2 := hbw.setCell (p := ⟨w.heap.size + 1, 0, none⟩) (Nat.le_succ _) (.bool true)
              have hbw3 := hbw2.trans (belowK_b (w := w) (Nat.le_refl _) _ D _ (.deferred none) (by omega) hK2 rfl rfl)
              have HF := Lib.hid (And.intro hK2 (And.intro z0 hbw3))
              clear hB5 hK2 hB6 z0 hbw hbw2 hbw3 hsz
              subst hm
              by_cases hpn : pre.length = nw
              · rw [hpn] at cN cM2
                have hpn2 : (pre.length : Int) = (nw : Int) := by omega
                gi_wp2
                refine ⟨by simp, .inl ⟨_, _, rfl, run_takeDeferred HF.out.1, ?_⟩⟩
                have z0 := HF.out.2.1
                exact ⟨.bool true, by simp [results, Try.results3, go_sem, z0], rfl, HF.out.2.2⟩
              · have hpn2 : ¬ (pre.length : Int) = (nw : Int) := by omega
                gi_wp2
                refine ⟨by simp, .inl ⟨_, _, rfl, run_takeDeferred HF.out.1, ?_⟩⟩
                have z0 := HF.out.2.1
                exact ⟨.bool true, by simp [results, Try.results3, go_sem, z0], rfl, HF.out.2.2⟩
theorem ringTells_walk (n : Int) (l : List ByteArray) (A : Option Addr) (c : Nat) (i most : Int) (w : World) (hn : -9223372036854775808 ≤ n ∧ n ≤ 9223372036854775807) (hr : Reads w w.heap.size 1 A l.length (strs l)) (hl : l.length ≤ maxLen ∧ l.length ≤ c)
    (hi : -9223372036854775808 ≤ i ∧ i ≤ 9223372036854775807) (hm : -9223372036854775808 ≤ most ∧ most ≤ 9223372036854775807) :
    Calls Try.prog 3 #[.int .i64 n, .slice A l.length c, .int .i64 i, .int .i64 most] w fun e w' => e = .returned (.bool true) ∧ Below w.heap.size w w' := by
  by_cases h : 1 ≤ n ∧ n ≤ 60 ∧ l.length ≤ 60
  · obtain ⟨k, rfl⟩ : ∃ k : Nat, n = (k : Int) := ⟨n.toNat, by omega⟩
    exact ringTells_late k l A c i most w (by omega) (by omega) h.2.2 hl.2 hr hi
  · exact ringTells_early n l A c i most w h hl
end Go.Proofs.Ytgmgddccdfmiiaa
