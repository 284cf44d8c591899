/-
  PackGets and PackPuts: the plain part, the walk of the reference's Same, and the walks of both laws. Condition: none.
-/
import Derived.Test.YtomncdnkiommfaaPackGet
import Derived.Test.YtomncdnkiommfaaArgs
import Derived.Laws.StructEq
namespace Go.Fw
open Go.RowKit Go.WideShapes Go.ChangeShapes Go.Deep Go.Joins
set_option linter.unusedVariables false
theorem smpN_code (ns : List Int) : (smpN ns).2 = 0 ∨ smpN ns = ([], 10) := by
  rcases ns with _ | ⟨n, r⟩
  · exact .inr rfl
  · rw [smpN]
    split
    · exact .inr rfl
    · exact decA_code r r.length _ _ _ (Nat.le_refl _)
theorem readL_code (b : List UInt8) : (readL b).2 = 0 ∨ (readL b).2 = 1 ∨ (readL b).2 = 2 := by
  rcases readF_get b.length b [] _ _ (Nat.le_refl _) rfl with ⟨h, _⟩ | ⟨_, h⟩
  · exact .inl h
  · exact .inr h
theorem getS_ok {b : List UInt8} (h : (getS b).2 = 0) : checkS (getS b).1 = 0 ∧ putL (numL (getS b).1) = b ∧ (getS b).1.length ≤ 256 ∧ ∀ x ∈ (getS b).1, x.ok := by
  by_cases h0 : (readL b).2 = 0
  · have e : getS b = smpN (readL b).1 := by unfold getS; rw [if_pos h0]
    have hp : putL (readL b).1 = b := by
      rcases readF_get b.length b [] (readL b).1 (readL b).2 (Nat.le_refl _) rfl with ⟨_, h2, _⟩ | ⟨_, h2⟩
      · simpa [putL] using h2
      · omega
    rw [e] at h ⊢
    rcases hr : (readL b).1 with _ | ⟨n, r⟩
    · rw [hr] at h; simp [smpN] at h
    · rw [hr] at h hp
      rw [smpN] at h ⊢
      split at h
      · simp at h
      · rename_i hb
        rw [if_neg hb]
        obtain ⟨l, h1, h2, h3, h4, h5⟩ := dif_decA n.toNat r (-1) 0 [] (decA (-1) 0 r []).1 (by omega) (by omega) (by omega) (Prod.ext rfl h)
        rw [h1, List.nil_append]
        have hn : (l.length : Int) = n := by omega
        refine ⟨?_, ?_, by omega, h4⟩
        · unfold checkS; rw [if_neg (by omega)]; exact h3
        · unfold numL; rw [h2, hn]; exact hp
  · have e : getS b = ([], perr (readL b).2) := by unfold getS; rw [if_neg h0]
    rw [e] at h
    exfalso
    rcases readL_code b with hc | hc | hc
    · exact h0 hc
    · rw [hc] at h; revert h; decide
    · rw [hc] at h; revert h; decide
theorem getS_no {b : List UInt8} (h : (getS b).2 ≠ 0) : (getS b).1 = [] ∧ (getS b).2 = if (readL b).2 = 2 then 11 else 10 := by
  by_cases h0 : (readL b).2 = 0
  · have e : getS b = smpN (readL b).1 := by unfold getS; rw [if_pos h0]
    rw [e] at h ⊢
    rcases smpN_code (readL b).1 with hc | hc
    · exact absurd hc h
    · rw [hc, if_neg (by omega)]; exact ⟨rfl, rfl⟩
  · have e : getS b = ([], perr (readL b).2) := by unfold getS; rw [if_neg h0]
    rw [e]
    refine ⟨rfl, ?_⟩
    rcases readL_code b with hc | hc | hc
    · exact absurd hc h0
    · rw [hc]; decide
    · rw [hc]; decide
theorem checkS_zero {l : List Smp} (h : checkS l = 0) : l.length ≤ 256 ∧ chk (-1) l = 0 := by
  unfold checkS at h
  split at h
  · cases h
  · exact ⟨by omega, h⟩
theorem getS_put {l : List Smp} (hok : ∀ x ∈ l, x.ok) (h : checkS l = 0) : getS (putL (numL l)) = (l, 0) := by
  obtain ⟨h1, h2⟩ := checkS_zero h
  have hs : ∀ x ∈ numL l, -9223372036854775808 ≤ x ∧ x ≤ 9223372036854775807 := by
    intro x hx
    unfold numL at hx
    rcases List.mem_cons.1 hx with rfl | hx
    · omega
    · exact difF_small l hok (-1) 0 (by omega) (by omega) (by omega) h2 x hx
  have hr : readL (putL (numL l)) = (numL l, 0) := by
    unfold readL
    rw [readF_put _ hs _ _ (Nat.le_refl _)]
    rfl
  unfold getS
  rw [hr, if_pos rfl]
  show smpN ((l.length : Int) :: difF (-1) 0 l) = _
  rw [smpN, if_neg (by rw [difF_length]; omega), decA_dif l hok _ _ _ (by omega) (by omega) h2]
  rfl
/-- a block that has just been laid reads as its cells, s an element -/
theorem reads_newS (w : World) (t : TypeId) (cs : Array Value) (s n g B : Nat) (hn : cs.size = n * s) (hg : g = w.heap.size) (hB : B = w.heap.size + 1) : Reads (w.alloc (.cells cs t)) B s (some ⟨g, 0, none⟩) n cs.toList := by
  subst hg
  subst hB
  refine ⟨by simp [hn], fun _ => ⟨_, rfl, by simp, fun j u hu => ?_⟩⟩
  rw [show (⟨w.heap.size, 0, none⟩ : Addr).add j = ⟨w.heap.size, j, none⟩ by unfold Addr.add; split <;> simp_all]
  rw [World.cell?_alloc_mark]
  simpa using hu
theorem dropEq {α : Type} [DecidableEq α] {xs ys : List α} (hl : xs.length = ys.length) (k : Nat) (hk : k < xs.length) : decide (xs.drop k = ys.drop k) = (decide (xs[k] = ys[k]) && decide (xs.drop (k + 1) = ys.drop (k + 1))) := by
  rw [List.drop_eq_getElem_cons hk, List.drop_eq_getElem_cons (show k < ys.length by omega), Bool.eq_iff_iff]
  simp only [decide_eq_true_eq, Bool.and_eq_true, List.cons.injEq]

def toSmp (r : List Int) : Smp := ⟨r.getD 0 0, r.getD 1 0⟩
theorem toSmp_cells {r : List Int} (h : r.length = 2) : r.map i64v = (toSmp r).cells := by
  match r, h with
  | [a, b], _ => rfl
theorem toSmp_ok {r : List Int} (h : r.length = 2) (hn : ∀ n ∈ r, In64 n) : (toSmp r).ok := by
  match r, h with
  | [a, b], _ => exact ⟨hn a (by simp), hn b (by simp)⟩
theorem arg_smps {H : Type} {enc : TypeId × Value → H} {P : Program} {W : World} {base : Nat} {t e : TypeId} {fs : Array Field} {v : Value} {d : DataW H} {p : List MemPlace} (ht : P.underlying t = some (.slice e)) (he : P.underlying e = some (.struct fs)) (hone : oneCellFields P fs = true) (hC : P.cellsOf e = 2) (hsz : fs.size = 2)
    (hints : fs.all (fun f => isI64 (P.underlying f.type)) = true)
    (hv : Value.okWide P W .any base t v) (h : DataW.Trod enc P W 0 (fun _ => true) true t v d p) :
    ∃ (A : Option Addr) (c : Nat) (l : List Smp), v = .slice A l.length c ∧ (l.length ≤ maxLen ∧ l.length ≤ c) ∧ (∀ a ∈ l, a.ok) ∧ Reads W W.heap.size 2 A l.length (smps l) := by
  obtain ⟨A, c, rows, rfl, hl, hr, hR⟩ := arg_rows ht he hone (by rw [hC, hsz]) (nums_of hints) (by omega) hv h
  refine ⟨A, c, rows.map toSmp, by simp, by simpa using hl, fun a ha => ?_, ?_⟩
  · obtain ⟨r, hr', rfl⟩ := List.mem_map.1 ha
    exact toSmp_ok ((hr r hr').1.trans hsz) (hr r hr').2
  · have e1 : (rows.flatMap fun r => r.map i64v) = smps (rows.map toSmp) := by
      unfold smps
      rw [List.flatMap_map]
      have : ∀ rs : List (List Int), (∀ r ∈ rs, r.length = 2) → (rs.flatMap fun r => r.map i64v) = rs.flatMap fun r => (toSmp r).cells := by
        intro rs
        induction rs with
        | nil => intro _; rfl
        | cons r rs ih =>
          intro hrs
          rw [List.flatMap_cons, List.flatMap_cons, toSmp_cells (hrs r (by simp)), ih (fun r' hr' => hrs r' (by simp [hr']))]
      exact this rows fun r hr' => (hr r hr').1.trans hsz
    rw [e1, hsz] at hR
    simpa using hR
end Go.Fw
namespace Go.Proofs.Ytomncdnkiommfaa
open Go.RowKit Go.Fw
set_option maxHeartbeats 1000000
set_option maxRecDepth 4000
set_option linter.unusedVariables false
set_option linter.unusedSimpArgs false

theorem neq_smp (a b c d : Int) (w : World) : (binOp .neq 57 (.agg #[.int .i64 a, .int .i64 b]) (.agg #[.int .i64 c, .int .i64 d])).run Try.prog w = .ok (.bool (!(decide (a = c) && decide (b = d)))) w := by
  have hu := Try.underlying57
  by_cases h1 : a = c
  · by_cases h2 : b = d
    · subst h1; subst h2; go_simp
    · go_simp
  · go_simp
theorem neq_smp_of {a b c d : Int} (r : Bool) (h : (!decide ((⟨a, b⟩ : Smp) = ⟨c, d⟩)) = r) : ∀ w : World, (binOp .neq 57 (.agg #[.int .i64 a, .int .i64 b]) (.agg #[.int .i64 c, .int .i64 d])).run Try.prog w = .ok (.bool r) w := by
  intro w
  rw [neq_smp, ← h]
  congr 3
  rw [Bool.eq_iff_iff]
  simp

theorem same08_any (xs ys : List Smp) (A A2 : Option Addr) (c c2 n m B : Nat) (w : World) (hx : Reads w B 2 A n (smps xs)) (hy : Reads w B 2 A2 m (smps ys)) (hn : n ≤ 1000000) (hm : m ≤ 1000000) :
    Calls Try.prog 28 #[.slice A n c, .slice A2 m c2] w fun e w' => e = .returned (.bool (decide (xs = ys))) ∧ Below w.heap.size w w' := by
  have ex : n = xs.length := smp_len hx
  have ey : m = ys.length := smp_len hy
  by_cases hnm : n = m
  · have h1 : ((n : Int) != (m : Int)) = false := by simp; omega
    have hl : xs.length = ys.length := by omega
    have EX := Lib.hid ex
    have EY := Lib.hid ey
    have HL := Lib.hid hl
    subst hnm
    clear ex ey hl
    go_enter Try.func28, Try.ntmps28
    go_wp2
    go_loopw [5] (fun i wr => ∃ (k : Nat), k ≤ n ∧ i = .int .i64 k ∧ Hid (decide (xs = ys) = decide (xs.drop k = ys.drop k)) ∧ Hid (∃ nq, wr = w.drewN nq)) (fun i _ => n - (intOf i).toNat)
    case atStart => exact ⟨0, by omega, rfl, Lib.hid rfl, Lib.hid ⟨0, rfl⟩⟩
    case round =>
      obtain ⟨k, hk, rfl, HD, HW⟩ := hrel
      obtain ⟨nq, rfl⟩ := HW.out
      clear HW
      by_cases hlt : k < n
      · have hkx : k < xs.length := by have := EX.out; omega
        have hky : k < ys.length := by have := EY.out; omega
        obtain ⟨bl, off, rfl, _, g0, g1⟩ := smp_at hx hkx
        obtain ⟨bl2, off2, rfl, _, g2, g3⟩ := smp_at hy hky
        have hde := dropEq HL.out k hkx
        generalize xs[k] = x at *
        generalize ys[k] = y at *
        obtain ⟨x0, x1⟩ := x
        obtain ⟨y0, y1⟩ := y
        simp only at g0 g1 g2 g3
        have hlen : (k : Int) < (n : Int) := by omega
        by_cases hxy : (⟨x0, x1⟩ : Smp) = ⟨y0, y1⟩
        · have h2 := neq_smp_of (a := x0) (b := x1) (c := y0) (d := y1) false (by simp [hxy])
          have HE : Hid (decide (xs.drop k = ys.drop k) = decide (xs.drop (k + 1) = ys.drop (k + 1))) := by rw [hde, hxy]; exact Lib.hid (by simp)
          clear hde hxy
          go_wp2
          go_quiet (fail)
          go_wp2
          go_roundw
          case rel => exact ⟨k + 1, by omega, by go_num, Lib.hid (by rw [HD.out, HE.out]), Lib.hid ⟨_, rfl⟩⟩
          case measure => simp [intOf]; omega
        · have h2 := neq_smp_of (a := x0) (b := x1) (c := y0) (d := y1) true (by simp [hxy])
          have HE : Hid (decide (xs.drop k = ys.drop k) = false) := by rw [hde]; exact Lib.hid (by simp [hxy])
          clear hde hxy
          go_wp2
          go_quiet (fail)
          go_wp2
          go_ret
          exact ⟨ret_b (by rw [HD.out, HE.out]), by repeat (first | exact Below.refl _ _ | apply sub_drewN)⟩
      · have HE : Hid (decide (xs = ys) = true) := by
          rw [HD.out, List.drop_eq_nil_of_le (by have := EX.out; omega), List.drop_eq_nil_of_le (by have := EY.out; omega)]
          exact Lib.hid (by simp)
        go_wp2
        go_ret
        exact ⟨ret_b (by rw [HE.out]), by repeat (first | exact Below.refl _ _ | apply sub_drewN)⟩
  · have h1 : ((n : Int) != (m : Int)) = true := by simp; omega
    have HE : Hid (decide (xs = ys) = false) := by
      show _ = _
      rw [decide_eq_false_iff_not]
      intro h
      subst h
      omega
    clear ex ey hnm
    go_enter Try.func28, Try.ntmps28
    go_wp2
    go_ret
    exact ⟨ret_b (by rw [HE.out]), Below.refl _ _⟩

theorem packPut_nil : putL (numL []) = [0] := by decide
theorem pput_at (l : List Smp) (A : Option Addr) (c n : Nat) (w : World) (hr : Reads w w.heap.size 2 A n (smps l)) (hl : n ≤ 10000) (hok : ∀ x ∈ l, x.ok) :
    Calls Try.prog 25 #[.slice A n c] w fun e w' => ∃ B d, e = .returned (.tuple #[.slice B (packB l).length d, .int .i64 (checkS l)]) ∧ (packB l).length ≤ d ∧ Below w.heap.size w w' ∧ Reads w' w'.heap.size 1 B (packB l).length (bys (packB l)) := by
  refine (pput_any l A c n w hr hl hok).mono ?_
  rintro e w' ⟨v, rfl, hm⟩
  obtain ⟨B, d, rfl, h1, _, hq⟩ := hm.form
  rw [bys_length] at hq h1
  exact ⟨B, d, by rw [bys_length], h1, hm.below, hq⟩
theorem pget_at (l : List UInt8) (A : Option Addr) (c n : Nat) (w : World) (hr : Reads w w.heap.size 1 A n (bys l)) (hl : n ≤ 100000) (hcc : n ≤ c) :
    Calls Try.prog 22 #[.slice A n c] w fun e w' => ∃ B d, e = .returned (.tuple #[.slice B (getS l).1.length d, .int .i64 (getS l).2]) ∧ Below w.heap.size w w' ∧ Reads w' w'.heap.size 2 B (getS l).1.length (smps (getS l).1) := by
  refine (pget_any l A c n w hr hl hcc).mono ?_
  rintro e w' ⟨v, rfl, hm⟩
  obtain ⟨B, d, rfl, _, _, hq⟩ := hm.form
  exact ⟨B, d, rfl, hm.below, hq⟩

theorem awake11_any (w : World) : Calls Try.prog 21 #[] w fun e w' => e = .returned (.bool true) ∧ Below w.heap.size w w' := by
  have e1 := Lib.hid (show packB [] = [0] by decide)
  have e2 := Lib.hid (show packB [⟨3, 1⟩] = [2, 6, 2] by decide)
  have e3 := Lib.hid (show (getS [2]).2 = 10 by decide)
  go_enter Try.func21, Try.ntmps21
  go_wp2_with fail
  refine (pput_at [] none 0 0 w Reads.none_ (by omega) (by simp)).mono ?_
  rintro e w1 ⟨A1, d1, rfl, hd1, hb1, hq1⟩
  rw [e1.out] at hq1 ⊢
  have hq1 : Reads w1 w1.heap.size 1 A1 1 (bys [0]) := hq1
  go_wp2_with fail
  refine (pput_at [⟨3, 1⟩] _ _ 1 _ (reads_newS w1 57 #[.int .i64 3, .int .i64 1] 2 1 _ _ rfl rfl (by simp)) (by omega) (fun x hx => by simp at hx; subst hx; exact ⟨⟨by decide, by decide⟩, ⟨by decide, by decide⟩⟩)).mono ?_
  rintro e w2 ⟨A2, d2, rfl, hd2, hb2, hq2⟩
  rw [e2.out] at hq2 ⊢
  have hq2 : Reads w2 w2.heap.size 1 A2 3 (bys [2, 6, 2]) := hq2
  have hb2' := sub_trans (sub_alloc hb1 _) hb2
  have hq1' := (hq1.alloc (Nat.le_refl _) (.cells #[.int .i64 3, .int .i64 1] 57)).more (B' := (w1.alloc (.cells #[.int .i64 3, .int .i64 1] 57)).heap.size) (by simp)
  have hq3 := hq1'.up hb2
  clear hq1 hq1' hb2 hb1
  go_wp2_with fail
  refine (pget_at [2] _ _ 1 _ (reads_new_at w2 5 #[.int .u8 2] 1 _ _ rfl rfl (by simp)) (by omega) (by omega)).mono ?_
  rintro e w3 ⟨A3, d3, rfl, hb3, hq4⟩
  rw [e3.out]
  have hb3' := sub_trans (sub_alloc hb2' _) hb3
  have hq1' := ((hq3.alloc (Nat.le_refl _) (.cells #[.int .u8 2] 5)).more (B' := (w2.alloc (.cells #[.int .u8 2] 5)).heap.size) (by simp)).up hb3
  have hq2' := ((hq2.alloc (Nat.le_refl _) (.cells #[.int .u8 2] 5)).more (B' := (w2.alloc (.cells #[.int .u8 2] 5)).heap.size) (by simp)).up hb3
  have hc1 := run_str_reads (P := Try.prog) 22 9 5 d1 Try.underlying22 Try.underlying5 Try.underlying9 hq1'
  have hc2 := run_str_reads (P := Try.prog) 22 9 5 d2 Try.underlying22 Try.underlying5 Try.underlying9 hq2'
  clear hq1' hq2' hq2 hq3 hq4 hb3 hb2' hd1 hd2
  go_wp2
  go_ret
  exact ⟨rfl, hb3'⟩

theorem packGets_walk (l : List UInt8) (A : Option Addr) (c : Nat) (w : World) (hr : Reads w w.heap.size 1 A l.length (bys l)) (hlc : l.length ≤ maxLen ∧ l.length ≤ c) :
    Calls Try.prog 6 #[.slice A l.length c] w fun e w' => e = .returned (.bool true) ∧ Below w.heap.size w w' := by
  obtain ⟨hl, hcc⟩ := hlc
  unfold maxLen at hl
  by_cases h : l.length ≤ 600
  · have hok := getS_ok (b := l)
    have hno := getS_no (b := l)
    have hrc := readL_code l
    generalize hgs : getS l = g at *
    obtain ⟨s, ec⟩ := g
    generalize hrl : readL l = r at *
    obtain ⟨ns, rc⟩ := r
    simp only at hok hno hrc
    have HG := Lib.hid hgs
    have HR := Lib.hid hrl
    clear hgs hrl
    by_cases h0 : ec = 0
    · obtain ⟨k1, k2, k3, k4⟩ := hok h0
      have K1 := Lib.hid k1
      have K2 := Lib.hid k2
      have K0 := Lib.hid h0
      subst h0
      clear k1 k2 hno hok K0 hrc
      go_enter Try.func6, Try.ntmps6
      go_wp2_with fail
      refine (awake11_any w).mono ?_
      rintro e1 w1 ⟨rfl, hb⟩
      have hr1 := hr.up hb
      go_wp2_with fail
      refine (pget_at l _ _ _ _ hr1 (by omega) hcc).mono ?_
      rintro e2 w2 ⟨A2, d2, rfl, hb2, hq2⟩
      rw [HG.out] at hq2 ⊢
      have hr2 := hr1.up hb2
      have hb2' := sub_trans hb hb2
      go_wp2_with fail
      refine (read_any l _ _ _ hr2 (by omega) hcc).mono ?_
      rintro e3 w3 ⟨v3, rfl, hm3⟩
      rw [HR.out] at hm3 ⊢
      have hr3 := hr2.up hm3.below
      have hb3 := sub_trans hb2' hm3.below
      have hq3 := hq2.up hm3.below
      obtain ⟨A3, c3, rfl, _, _, _⟩ := hm3.form
      clear hr hr1 hr2 hb hb2 hb2' hq2 hm3
      go_wp2
      have hS := (Below.refl w3.heap.size w3).drew
      refine any_start (S := fun W => Below w3.heap.size w3 W) (by kernel_rfl) hS ?_
      simp only [List.length_cons, List.length_nil, Nat.reduceAdd, List.size_toArray]
      refine any_pure 0 (v := ?_) rfl (by kernel_rfl) (by intro _ _ _ h; exact h) (by assumption) (by rfl) (fun W hW => ?_) ?_
      rotate_left
      · first | (go_simp; done) | (go_simp; with_reducible rfl)
      try simp only [Act.put, List.setIfInBounds_toArray, List.set_cons_zero, List.set_cons_succ]
      refine any_one 1 (by kernel_rfl) rfl (by rfl) (fun K hK => ?_)
      go_simp
      refine (rcheck_any s _ _ _ w3.drew hq3 (by omega)).mono ?_
      rintro e4 w4 ⟨rfl, hb4⟩
      rw [K1.out]
      have hb4' := sub_trans hb3.drew hb4
      have hr4 := Reads.up (w := w3.drew) hr3 hb4
      have hq4 := Reads.up (w := w3.drew) hq3 hb4
      refine hK _ _ (sub_trans hS hb4) (any_narrow (S' := fun W => Below w4.heap.size w4 W) (fun _ h => sub_trans (sub_trans hS hb4) h) _ _ _ _ ?_)
      have hS4 := Below.refl w4.heap.size w4
      clear hK
      try simp only [Act.put, List.setIfInBounds_toArray, List.set_cons_zero, List.set_cons_succ]
      refine any_pure 2 (v := ?_) rfl (by kernel_rfl) (by intro _ _ _ h; exact h) (by assumption) (by rfl) (fun W hW => ?_) ?_
      rotate_left
      · first | (go_simp; done) | (go_simp; with_reducible rfl)
      try simp only [Act.put, List.setIfInBounds_toArray, List.set_cons_zero, List.set_cons_succ]
      refine any_pure 3 (v := ?_) rfl (by kernel_rfl) (by intro _ _ _ h; exact h) (by assumption) (by rfl) (fun W hW => ?_) ?_
      rotate_left
      · first | (go_simp; done) | (go_simp; with_reducible rfl)
      try simp only [Act.put, List.setIfInBounds_toArray, List.set_cons_zero, List.set_cons_succ]
      refine any_pure 4 (v := ?_) rfl (by kernel_rfl) (by intro _ _ _ h; exact h) (by assumption) (by rfl) (fun W hW => ?_) ?_
      rotate_left
      · first | (go_simp; done) | (go_simp; with_reducible rfl)
      try simp only [Act.put, List.setIfInBounds_toArray, List.set_cons_zero, List.set_cons_succ]
      refine any_pure 7 (v := ?_) rfl (by kernel_rfl) (by intro _ _ _ h; exact h) (by assumption) (by rfl) (fun W hW => ?_) ?_
      rotate_left
      · first | (go_simp; done) | (go_simp; with_reducible rfl)
      try simp only [Act.put, List.setIfInBounds_toArray, List.set_cons_zero, List.set_cons_succ]
      refine any_pure 8 (v := ?_) rfl (by kernel_rfl) (by intro _ _ _ h; exact h) (by assumption) (by rfl) (fun W hW => ?_) ?_
      rotate_left
      · have hc := run_str_reads (P := Try.prog) 22 9 5 c Try.underlying22 Try.underlying5 Try.underlying9 (hr4.up hW); first | (go_simp; done) | (go_simp; with_reducible rfl)
      try simp only [Act.put, List.setIfInBounds_toArray, List.set_cons_zero, List.set_cons_succ]
      refine any_one 5 (by kernel_rfl) rfl (by rfl) (fun K hK => ?_)
      go_simp
      refine (rput11_any s _ _ _ _ hq4 (by omega) k4 (checkS_zero K1.out).2).mono ?_
      rintro e5 w5 ⟨v5, rfl, hm5⟩
      rw [K2.out] at hm5
      obtain ⟨A5, c5, rfl, _, _, hq5⟩ := hm5.form
      have hb5 := sub_trans hb4' hm5.below
      refine hK _ _ (sub_trans hS4 hm5.below) (any_narrow (S' := fun W => Below w5.heap.size w5 W) (fun _ h => sub_trans (sub_trans hS4 hm5.below) h) _ _ _ _ ?_)
      have hS5 := Below.refl w5.heap.size w5
      clear hK hm5
      try simp only [Act.put, List.setIfInBounds_toArray, List.set_cons_zero, List.set_cons_succ]
      refine any_pure 6 (v := ?_) rfl (by kernel_rfl) (by intro _ _ _ h; exact h) (by assumption) (by rfl) (fun W hW => ?_) ?_
      rotate_left
      · have hc := run_str_reads (P := Try.prog) 22 9 5 c5 Try.underlying22 Try.underlying5 Try.underlying9 (hq5.up hW); first | (go_simp; done) | (go_simp; with_reducible rfl)
      try simp only [Act.put, List.setIfInBounds_toArray, List.set_cons_zero, List.set_cons_succ]
      refine any_pure 9 (v := ?_) rfl (by kernel_rfl) (by intro _ _ _ h; exact h) (by assumption) (by rfl) (fun W hW => ?_) ?_
      rotate_left
      · first | (go_simp; done) | (go_simp; with_reducible rfl)
      try simp only [Act.put, List.setIfInBounds_toArray, List.set_cons_zero, List.set_cons_succ]
      refine any_pure 10 (v := ?_) rfl (by kernel_rfl) (by intro _ _ _ h; exact h) (by assumption) (by rfl) (fun W hW => ?_) ?_
      rotate_left
      · first | (go_simp; done) | (go_simp; with_reducible rfl)
      try simp only [Act.put, List.setIfInBounds_toArray, List.set_cons_zero, List.set_cons_succ]
      refine any_pure 11 (v := ?_) rfl (by kernel_rfl) (by intro _ _ _ h; exact h) (by assumption) (by rfl) (fun W hW => ?_) ?_
      rotate_left
      · first | (go_simp; done) | (go_simp; with_reducible rfl)
      try simp only [Act.put, List.setIfInBounds_toArray, List.set_cons_zero, List.set_cons_succ]
      refine any_done (by kernel_rfl) ?_
      go_wp2
      go_ret
      exact ⟨rfl, hb5⟩
    · obtain ⟨k1, k2⟩ := hno h0
      subst k1
      have K2 := Lib.hid k2
      have hne : (ec == 0) = false := by simpa using h0
      have hcase : (rc = 2 ∧ ec = 11) ∨ ((rc == 2) = false ∧ ec = 10) := by
        by_cases hc : rc = 2
        · exact .inl ⟨hc, by rw [k2, if_pos hc]⟩
        · exact .inr ⟨by simpa using hc, by rw [k2, if_neg hc]⟩
      clear k2 hok hno h0 hrc
      rcases hcase with ⟨h1, h2⟩ | ⟨h1, h2⟩
      · subst h1
        subst h2
        clear K2
        go_enter Try.func6, Try.ntmps6
        go_wp2_with fail
        refine (awake11_any w).mono ?_
        rintro e1 w1 ⟨rfl, hb⟩
        have hr1 := hr.up hb
        go_wp2_with fail
        refine (pget_at l _ _ _ _ hr1 (by omega) hcc).mono ?_
        rintro e2 w2 ⟨A2, d2, rfl, hb2, hq2⟩
        rw [HG.out] at hq2 ⊢
        have hr2 := hr1.up hb2
        have hb2' := sub_trans hb hb2
        go_wp2_with fail
        refine (read_any l _ _ _ hr2 (by omega) hcc).mono ?_
        rintro e3 w3 ⟨v3, rfl, hm3⟩
        rw [HR.out] at hm3 ⊢
        have hb3 := sub_trans hb2' hm3.below
        go_wp2
        go_ret
        exact ⟨rfl, hb3⟩
      · subst h2
        clear K2
        go_enter Try.func6, Try.ntmps6
        go_wp2_with fail
        refine (awake11_any w).mono ?_
        rintro e1 w1 ⟨rfl, hb⟩
        have hr1 := hr.up hb
        go_wp2_with fail
        refine (pget_at l _ _ _ _ hr1 (by omega) hcc).mono ?_
        rintro e2 w2 ⟨A2, d2, rfl, hb2, hq2⟩
        rw [HG.out] at hq2 ⊢
        have hr2 := hr1.up hb2
        have hb2' := sub_trans hb hb2
        go_wp2_with fail
        refine (read_any l _ _ _ hr2 (by omega) hcc).mono ?_
        rintro e3 w3 ⟨v3, rfl, hm3⟩
        rw [HR.out] at hm3 ⊢
        have hb3 := sub_trans hb2' hm3.below
        go_wp2
        go_ret
        exact ⟨rfl, hb3⟩
  · go_enter Try.func6, Try.ntmps6
    go_wp2_with fail
    refine (awake11_any w).mono ?_
    rintro e1 w1 ⟨rfl, hb⟩
    go_wp2
    go_ret
    exact ⟨rfl, hb⟩

theorem packPuts_walk (l : List Smp) (A : Option Addr) (c : Nat) (w : World) (hr : Reads w w.heap.size 2 A l.length (smps l)) (hok : ∀ a ∈ l, a.ok) (hlc : l.length ≤ maxLen ∧ l.length ≤ c) :
    Calls Try.prog 7 #[.slice A l.length c] w fun e w' => e = .returned (.bool true) ∧ Below w.heap.size w w' := by
  obtain ⟨hl, hcc⟩ := hlc
  unfold maxLen at hl
  by_cases h : l.length ≤ 300
  · obtain ⟨ec, hec⟩ : ∃ ec, checkS l = ec := ⟨_, rfl⟩
    obtain ⟨bb, hbb⟩ : ∃ bb, packB l = bb := ⟨_, rfl⟩
    have HE := Lib.hid hec
    have HB := Lib.hid hbb
    by_cases h0 : ec = 0
    · subst h0
      have hg := getS_put hok hec
      rw [← packB_ok hec, hbb] at hg
      have HG := Lib.hid hg
      have HC := Lib.hid (checkS_zero hec).2
      have hpl : bb.length ≤ 100000 := by
        rw [← hbb, packB_ok hec]
        refine Nat.le_trans (putL_length _) ?_
        unfold numL
        rw [List.length_cons, difF_length]
        omega
      have HP : Hid (putL (numL l) = bb) := by show _ = _; rw [← packB_ok hec, hbb]
      clear hec hbb hg
      go_enter Try.func7, Try.ntmps7
      go_wp2_with fail
      refine (awake11_any w).mono ?_
      rintro e1 w1 ⟨rfl, hb⟩
      have hr1 := hr.up hb
      go_wp2_with fail
      refine (pput_at l _ _ _ _ hr1 (by omega) hok).mono ?_
      rintro e2 w2 ⟨A2, d2, rfl, hd2, hb2, hq2⟩
      rw [HB.out] at hq2 hd2 ⊢
      rw [HE.out]
      have hr2 := hr1.up hb2
      have hb2' := sub_trans hb hb2
      go_wp2_with fail
      refine (rcheck_any l _ _ _ _ hr2 (by omega)).mono ?_
      rintro e3 w3 ⟨rfl, hb3⟩
      rw [HE.out]
      have hr3 := hr2.up hb3
      have hq3 := hq2.up hb3
      have hb3' := sub_trans hb2' hb3
      clear hr hr1 hr2 hb hb2 hb2' hq2
      go_wp2_with fail
      refine (check_any l _ _ _ _ hr3 (by omega)).mono ?_
      rintro e4 w4 ⟨rfl, hb4⟩
      rw [HE.out]
      have hr4 := hr3.up hb4
      have hq4 := hq3.up hb4
      have hb4' := sub_trans hb3' hb4
      clear hr3 hq3 hb3 hb3' hb4
      go_wp2_with fail
      refine (pget_at bb _ _ _ _ hq4 hpl hd2).mono ?_
      rintro e5 w5 ⟨A5, d5, rfl, hb5, hq5⟩
      rw [HG.out] at hq5 ⊢
      have hr5 := hr4.up hb5
      have hq6 := hq4.up hb5
      have hb5' := sub_trans hb4' hb5
      clear hr4 hq4 hb4' hb5
      go_wp2
      have hS := (Below.refl w5.heap.size w5).drew
      refine any_start (S := fun W => Below w5.heap.size w5 W) (by kernel_rfl) hS ?_
      simp only [List.length_cons, List.length_nil, Nat.reduceAdd, List.size_toArray]
      refine any_pure 0 (v := ?_) rfl (by kernel_rfl) (by intro _ _ _ h; exact h) (by assumption) (by rfl) (fun W hW => ?_) ?_
      rotate_left
      · first | (go_simp; done) | (go_simp; with_reducible rfl)
      try simp only [Act.put, List.setIfInBounds_toArray, List.set_cons_zero, List.set_cons_succ]
      refine any_pure 1 (v := ?_) rfl (by kernel_rfl) (by intro _ _ _ h; exact h) (by assumption) (by rfl) (fun W hW => ?_) ?_
      rotate_left
      · have hc := run_str_reads (P := Try.prog) 22 9 5 d2 Try.underlying22 Try.underlying5 Try.underlying9 (hq6.up hW); first | (go_simp; done) | (go_simp; with_reducible rfl)
      try simp only [Act.put, List.setIfInBounds_toArray, List.set_cons_zero, List.set_cons_succ]
      refine any_pure 2 (v := ?_) rfl (by kernel_rfl) (by intro _ _ _ h; exact h) (by assumption) (by rfl) (fun W hW => ?_) ?_
      rotate_left
      · first | (go_simp; done) | (go_simp; with_reducible rfl)
      try simp only [Act.put, List.setIfInBounds_toArray, List.set_cons_zero, List.set_cons_succ]
      refine any_one 3 (by kernel_rfl) rfl (by rfl) (fun K hK => ?_)
      go_simp
      refine (rput11_any l _ _ _ w5.drew hr5 (by omega) hok HC.out).mono ?_
      rintro e6 w6 ⟨v6, rfl, hm6⟩
      rw [HP.out] at hm6
      obtain ⟨A6, c6, rfl, _, _, hq7⟩ := hm6.form
      have hb6 := sub_trans hb5'.drew hm6.below
      have hr6 := Reads.up (w := w5.drew) hr5 hm6.below
      have hq8 := Reads.up (w := w5.drew) hq5 hm6.below
      refine hK _ _ (sub_trans hS hm6.below) (any_narrow (S' := fun W => Below w6.heap.size w6 W) (fun _ h => sub_trans (sub_trans hS hm6.below) h) _ _ _ _ ?_)
      have hS6 := Below.refl w6.heap.size w6
      clear hK hm6
      try simp only [Act.put, List.setIfInBounds_toArray, List.set_cons_zero, List.set_cons_succ]
      refine any_pure 4 (v := ?_) rfl (by kernel_rfl) (by intro _ _ _ h; exact h) (by assumption) (by rfl) (fun W hW => ?_) ?_
      rotate_left
      · have hc := run_str_reads (P := Try.prog) 22 9 5 c6 Try.underlying22 Try.underlying5 Try.underlying9 (hq7.up hW); first | (go_simp; done) | (go_simp; with_reducible rfl)
      try simp only [Act.put, List.setIfInBounds_toArray, List.set_cons_zero, List.set_cons_succ]
      refine any_pure 5 (v := ?_) rfl (by kernel_rfl) (by intro _ _ _ h; exact h) (by assumption) (by rfl) (fun W hW => ?_) ?_
      rotate_left
      · first | (go_simp; done) | (go_simp; with_reducible rfl)
      try simp only [Act.put, List.setIfInBounds_toArray, List.set_cons_zero, List.set_cons_succ]
      refine any_pure 6 (v := ?_) rfl (by kernel_rfl) (by intro _ _ _ h; exact h) (by assumption) (by rfl) (fun W hW => ?_) ?_
      rotate_left
      · first | (go_simp; done) | (go_simp; with_reducible rfl)
      try simp only [Act.put, List.setIfInBounds_toArray, List.set_cons_zero, List.set_cons_succ]
      refine any_pure 7 (v := ?_) rfl (by kernel_rfl) (by intro _ _ _ h; exact h) (by assumption) (by rfl) (fun W hW => ?_) ?_
      rotate_left
      · first | (go_simp; done) | (go_simp; with_reducible rfl)
      try simp only [Act.put, List.setIfInBounds_toArray, List.set_cons_zero, List.set_cons_succ]
      refine any_pure 9 (v := ?_) rfl (by kernel_rfl) (by intro _ _ _ h; exact h) (by assumption) (by rfl) (fun W hW => ?_) ?_
      rotate_left
      · first | (go_simp; done) | (go_simp; with_reducible rfl)
      try simp only [Act.put, List.setIfInBounds_toArray, List.set_cons_zero, List.set_cons_succ]
      refine any_pure 10 (v := ?_) rfl (by kernel_rfl) (by intro _ _ _ h; exact h) (by assumption) (by rfl) (fun W hW => ?_) ?_
      rotate_left
      · first | (go_simp; done) | (go_simp; with_reducible rfl)
      try simp only [Act.put, List.setIfInBounds_toArray, List.set_cons_zero, List.set_cons_succ]
      refine any_one 8 (by kernel_rfl) rfl (by rfl) (fun K hK => ?_)
      go_simp
      refine (psize_any l _ _ _ w6 hr6 (by omega) hok).mono ?_
      rintro e7 w7 ⟨rfl, hb7⟩
      rw [HB.out]
      have hb7' := sub_trans hb6 hb7
      have hr7 := hr6.up hb7
      have hq9 := hq8.up hb7
      refine hK _ _ (sub_trans hS6 hb7) (any_narrow (S' := fun W => Below w7.heap.size w7 W) (fun _ h => sub_trans hb7 h) _ _ _ _ ?_)
      have hS7 := Below.refl w7.heap.size w7
      clear hK
      try simp only [Act.put, List.setIfInBounds_toArray, List.set_cons_zero, List.set_cons_succ]
      refine any_pure 11 (v := ?_) rfl (by kernel_rfl) (by intro _ _ _ h; exact h) (by assumption) (by rfl) (fun W hW => ?_) ?_
      rotate_left
      · first | (go_simp; done) | (go_simp; with_reducible rfl)
      try simp only [Act.put, List.setIfInBounds_toArray, List.set_cons_zero, List.set_cons_succ]
      refine any_pure 12 (v := ?_) rfl (by kernel_rfl) (by intro _ _ _ h; exact h) (by assumption) (by rfl) (fun W hW => ?_) ?_
      rotate_left
      · first | (go_simp; done) | (go_simp; with_reducible rfl)
      try simp only [Act.put, List.setIfInBounds_toArray, List.set_cons_zero, List.set_cons_succ]
      refine any_pure 13 (v := ?_) rfl (by kernel_rfl) (by intro _ _ _ h; exact h) (by assumption) (by rfl) (fun W hW => ?_) ?_
      rotate_left
      · first | (go_simp; done) | (go_simp; with_reducible rfl)
      try simp only [Act.put, List.setIfInBounds_toArray, List.set_cons_zero, List.set_cons_succ]
      refine any_pure 14 (v := ?_) rfl (by kernel_rfl) (by intro _ _ _ h; exact h) (by assumption) (by rfl) (fun W hW => ?_) ?_
      rotate_left
      · first | (go_simp; done) | (go_simp; with_reducible rfl)
      try simp only [Act.put, List.setIfInBounds_toArray, List.set_cons_zero, List.set_cons_succ]
      refine any_pure 15 (v := ?_) rfl (by kernel_rfl) (by intro _ _ _ h; exact h) (by assumption) (by rfl) (fun W hW => ?_) ?_
      rotate_left
      · first | (go_simp; done) | (go_simp; with_reducible rfl)
      try simp only [Act.put, List.setIfInBounds_toArray, List.set_cons_zero, List.set_cons_succ]
      refine any_pure 16 (v := ?_) rfl (by kernel_rfl) (by intro _ _ _ h; exact h) (by assumption) (by rfl) (fun W hW => ?_) ?_
      rotate_left
      · first | (go_simp; done) | (go_simp; with_reducible rfl)
      try simp only [Act.put, List.setIfInBounds_toArray, List.set_cons_zero, List.set_cons_succ]
      refine any_pure 17 (v := ?_) rfl (by kernel_rfl) (by intro _ _ _ h; exact h) (by assumption) (by rfl) (fun W hW => ?_) ?_
      rotate_left
      · first | (go_simp; done) | (go_simp; with_reducible rfl)
      try simp only [Act.put, List.setIfInBounds_toArray, List.set_cons_zero, List.set_cons_succ]
      refine any_pure 18 (v := ?_) rfl (by kernel_rfl) (by intro _ _ _ h; exact h) (by assumption) (by rfl) (fun W hW => ?_) ?_
      rotate_left
      · first | (go_simp; done) | (go_simp; with_reducible rfl)
      try simp only [Act.put, List.setIfInBounds_toArray, List.set_cons_zero, List.set_cons_succ]
      refine any_pure 19 (v := ?_) rfl (by kernel_rfl) (by intro _ _ _ h; exact h) (by assumption) (by rfl) (fun W hW => ?_) ?_
      rotate_left
      · first | (go_simp; done) | (go_simp; with_reducible rfl)
      try simp only [Act.put, List.setIfInBounds_toArray, List.set_cons_zero, List.set_cons_succ]
      refine any_one 20 (by kernel_rfl) rfl (by rfl) (fun K hK => ?_)
      go_simp
      refine (same08_any l l _ _ _ _ _ _ _ w7 hq9 hr7 (by omega) (by omega)).mono ?_
      rintro e8 w8 ⟨rfl, hb8⟩
      rw [decide_eq_true (rfl : l = l)]
      have hb8' := sub_trans hb7' hb8
      refine hK _ _ (sub_trans hS7 hb8) (any_narrow (S' := fun W => Below w8.heap.size w8 W) (fun _ h => sub_trans hb8 h) _ _ _ _ ?_)
      have hS8 := Below.refl w8.heap.size w8
      clear hK
      try simp only [Act.put, List.setIfInBounds_toArray, List.set_cons_zero, List.set_cons_succ]
      refine any_pure 21 (v := ?_) rfl (by kernel_rfl) (by intro _ _ _ h; exact h) (by assumption) (by rfl) (fun W hW => ?_) ?_
      rotate_left
      · first | (go_simp; done) | (go_simp; with_reducible rfl)
      try simp only [Act.put, List.setIfInBounds_toArray, List.set_cons_zero, List.set_cons_succ]
      refine any_pure 22 (v := ?_) rfl (by kernel_rfl) (by intro _ _ _ h; exact h) (by assumption) (by rfl) (fun W hW => ?_) ?_
      rotate_left
      · first | (go_simp; done) | (go_simp; with_reducible rfl)
      try simp only [Act.put, List.setIfInBounds_toArray, List.set_cons_zero, List.set_cons_succ]
      refine any_done (by kernel_rfl) ?_
      go_wp2
      go_ret
      exact ⟨rfl, hb8'⟩
    · have h1 : (ec != 0) = true := by simpa using h0
      have h2 : bb = [] := by rw [← hbb]; exact packB_bad (by omega)
      subst h2
      clear hec hbb h0
      go_enter Try.func7, Try.ntmps7
      go_wp2_with fail
      refine (awake11_any w).mono ?_
      rintro e1 w1 ⟨rfl, hb⟩
      have hr1 := hr.up hb
      go_wp2_with fail
      refine (pput_at l _ _ _ _ hr1 (by omega) hok).mono ?_
      rintro e2 w2 ⟨A2, d2, rfl, hd2, hb2, hq2⟩
      rw [HB.out] at hq2 hd2 ⊢
      rw [HE.out]
      have hr2 := hr1.up hb2
      have hb2' := sub_trans hb hb2
      go_wp2_with fail
      refine (rcheck_any l _ _ _ _ hr2 (by omega)).mono ?_
      rintro e3 w3 ⟨rfl, hb3⟩
      rw [HE.out]
      have hr3 := hr2.up hb3
      have hb3' := sub_trans hb2' hb3
      clear hr hr1 hr2 hb hb2 hb2' hq2 hb3
      go_wp2_with fail
      refine (check_any l _ _ _ _ hr3 (by omega)).mono ?_
      rintro e4 w4 ⟨rfl, hb4⟩
      rw [HE.out]
      have hr4 := hr3.up hb4
      have hb4' := sub_trans hb3' hb4
      clear hr3 hb3' hb4
      go_wp2_with fail
      refine (psize_any l _ _ _ _ hr4 (by omega) hok).mono ?_
      rintro e5 w5 ⟨rfl, hb5⟩
      rw [HB.out]
      have hb5' := sub_trans hb4' hb5
      go_wp2
      go_ret
      exact ⟨rfl, hb5'⟩
  · go_enter Try.func7, Try.ntmps7
    go_wp2_with fail
    refine (awake11_any w).mono ?_
    rintro e1 w1 ⟨rfl, hb⟩
    go_wp2
    go_ret
    exact ⟨rfl, hb⟩
end Go.Proofs.Ytomncdnkiommfaa
