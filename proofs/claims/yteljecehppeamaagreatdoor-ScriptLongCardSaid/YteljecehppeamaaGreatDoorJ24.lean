/-
  ScriptLong walked (chapter 42). Conditions: strconv's table and errors lie in memory, a number in internal/bytealg.MaxLen.
-/
import Derived.Test.YteljecehppeamaaGreatDoorJ23
namespace Go.Fw
open Go.RowKit Go.WideShapes Go.ChangeShapes
set_option linter.unusedVariables false
set_option linter.unusedSimpArgs false
def scL (k : Nat) : Sc := ⟨1, 1, 1, 1, [], 1, List.replicate k 0⟩
theorem scL_ok (k : Nat) : (scL k).ok := by
  have h1 : In64 1 := by unfold In64; decide
  refine ⟨⟨h1, h1, h1, h1⟩, fun p hp x hx => ?_, h1, fun x hx => ?_⟩
  · exact absurd hp (by simp [scL])
  have := List.eq_of_mem_replicate hx
  subst this
  exact zero_in
theorem scL_bare (k : Nat) : (scL k).bare = scL k := rfl
theorem scL_E (k : Nat) : scE (scL k).st (scL k).sa (scL k).lo (scL k).hi (scL k).ps (scL k).wk = 0 := by
  show scE 1 1 1 1 [] 1 = 0
  decide
theorem textN_zeros (k : Nat) : (textN (List.replicate k 0)).length ≤ 2 * k := by
  have h := joinS_len 32 1 ((List.replicate k (0 : Int)).map Lib.itoa) fun w hw => by
    obtain ⟨x, hx, rfl⟩ := List.mem_map.1 hw
    rw [List.eq_of_mem_replicate hx]
    decide +kernel
  unfold textN
  simp only [List.length_map, List.length_replicate] at h ⊢
  omega
theorem scL_raw (k : Nat) : (rawN (scL k).lines).length ≤ 2 * k + 400 := by
  unfold Sc.lines
  rw [rawN_cons, List.length_append, List.length_append, rawN_app, List.length_append, rawN_cons, List.length_append, List.length_append]
  have h1 := cfgN_len (scL_ok k).cfg
  have h2 : (rawN ((scL k).ps.flatMap progLs)).length = 0 := rfl
  have h3 : (wkN (scL k).wk).length ≤ 40 := by show (wkN 1).length ≤ 40; decide +kernel
  have h4 : (rawN (pkLs (scL k).pk)).length ≤ 2 * k + 10 := by
    unfold pkLs
    split
    · simp [rawN]
    · rw [rawN_one]
      unfold pkN
      have h5 := textN_zeros k
      have e : picksS.length = 5 := rfl
      rw [List.length_append, List.length_append, List.length_cons, e]
      show 5 + ((textN (List.replicate k 0)).length + 1) + 1 ≤ _
      omega
  simp only [List.length_cons, List.length_nil]
  omega
theorem arg_u16 {H : Type} {enc : TypeId × Value → H} {P : Program} {W : World} {base : Nat} {t : TypeId} {v : Value} {d : DataW H} {p : List MemPlace} (ht : P.underlying t = some (.int .u16))
    (hv : Value.okWide P W .any base t v) (h : DataW.Trod enc P W 0 (fun _ => true) true t v d p) : ∃ n : Int, v = .int .u16 n ∧ 0 ≤ n ∧ n < 65536 := by
  obtain ⟨x, rfl, _, _, wx⟩ := open_int ht hv h
  have : 0 ≤ x ∧ x ≤ 65535 := by simpa [Lit.wf, IntKind.min, IntKind.max, IntKind.signed, IntKind.bits] using wx
  exact ⟨x, rfl, this.1, by omega⟩
end Go.Fw
namespace Go.Proofs.YteljecehppeamaaGreatDoor
open Go.RowKit Go.Fw Go.Shelf
set_option maxHeartbeats 2000000
set_option maxRecDepth 100000
set_option linter.unusedVariables false
set_option linter.unusedSimpArgs false
theorem run_makeL (q : Nat) (hq : q < 60) (w : World) : (Instr.makeSlice 25 (.int .i64 (8150 + (q : Int))) (.int .i64 (8150 + (q : Int)))).run Tryz.prog w = .ok (.slice (some ⟨w.heap.size, 0, none⟩) (8150 + q) (8150 + q)) (w.alloc (.cells (iarr (List.replicate (8150 + q) 0)) 3)) := by
  obtain ⟨i, hi, hz, hsz, hby⟩ := info_parts elemIntP.info
  have h := run_make (P := Tryz.prog) w 25 3 i (.int .i64 0) Tryz.underlying25 hi hz .i64 .i64 (8150 + q) (8150 + q) (by omega) (by omega) (by rw [hby]; omega) (by omega)
  rw [hsz, Nat.mul_one, show (8150 + (q : Int)).toNat = 8150 + q by omega] at h
  rw [made_zeros] at h
  exact h
theorem scL_at (k : Nat) (hk : k ≤ 9000) (w : World) (g : Nat) (h : Blk w g 3 (iarr (List.replicate k 0))) : ScAt w none (some ⟨g, 0, none⟩) 0 0 k k (scL k) := by
  refine ⟨⟨[], ⟨by simp, fun h => by simp at h⟩, rfl, fun i hi => by simp [scL] at hi⟩, ?_, by omega, by omega⟩
  have h1 := own_of_blk (B := 0) (n := k) (s := 1) h (Nat.zero_le _) (by simp [iarr_size]) (by unfold maxLen; omega)
  have h2 := Reads.of_own h1
  rw [iarr_list] at h2
  exact h2
/-- what Parse tells of the text, long or not -/
theorem scL_parse (k : Nat) (hk : k ≤ 9000) (w : World) (hR : Ready w) : Calls Tryz.prog 11 #[.string (scL k).raw] w fun e w' => ∃ a b c d A n j f A2 m j2, e = .returned (.tuple #[.agg #[.int .i64 a, .int .i64 b, .int .i64 c, .int .i64 d, .slice A n j, .int .i64 f, .slice A2 m j2], .int .i64 0, .int .i64 (scText (scL k)).2]) ∧ Below w.heap.size w w' := by
  have hrz : (scL k).raw.size = (rawN (scL k).lines).length := by
    have e : (scL k).raw.data.toList = rawN (scL k).lines := by simp [Sc.raw]
    rw [← e]
    rfl
  have hmx := scL_raw k
  by_cases hl : 16384 < (rawN (scL k).lines).length
  · have hE : (scText (scL k)).2 = 12 := by unfold scText; rw [if_neg (by rw [scL_E]; simp), if_pos hl]
    rw [hE]
    refine (sparse_long (scL k).raw (by omega) (by omega) w).mono ?_
    rintro e w' ⟨rfl, hb⟩
    exact ⟨0, 0, 0, 0, none, 0, 0, 0, none, 0, 0, rfl, hb⟩
  · have hE : (scText (scL k)).2 = 0 := by unfold scText; rw [if_neg (by rw [scL_E]; simp), if_neg hl]
    rw [hE]
    obtain ⟨h1, h2⟩ := raw_run (scL_ok k) (scL_E k)
    rw [scL_bare] at h2
    refine (sparse_run (scL k).raw _ (scL k) _ h1 h2 (by split <;> omega) (by omega) (scL_E k) (scL_ok k) (by show (List.replicate k (0 : Int)).length ≤ 100000; simp; omega) w hR).mono ?_
    rintro e w' ⟨A, A2, c, c2, rfl, _, hb⟩
    exact ⟨_, _, _, _, _, _, _, _, _, _, _, rfl, hb⟩
theorem scriptLong_walk (n : Int) (w : World) (hR : Ready w) (hn : 0 ≤ n ∧ n < 65536) :
    Calls Tryz.prog 4 #[.int .u16 n] w fun x w' => x = .returned (.bool true) ∧ Below w.heap.size w w' := by
  obtain ⟨q, hq, hq2⟩ : ∃ q : Nat, n % 60 = (q : Int) ∧ q < 60 := ⟨(n % 60).toNat, by omega, by omega⟩
  have HAW := Lib.hid sca_any
  have HR := Lib.hid hR
  have hmk := fun W => run_makeL q hq2 W
  have htx : (textN (scL (8150 + q)).pk).length ≤ 90000 := by have := textN_zeros (8150 + q); show (textN (List.replicate (8150 + q) 0)).length ≤ 90000; omega
  have hrw := scL_raw (8150 + q)
  have HT1 := Lib.hid (fun W g (hW : Ready W) (hb : Blk W g 3 (iarr (List.replicate (8150 + q) 0))) => sctext_any (scL (8150 + q)) none (some ⟨g, 0, none⟩) 0 0 (8150 + q) (8150 + q) W (scL_at _ (by omega) W g hb) (scL_ok _) hW.tabs (fun _ => ⟨by omega, fun p hp => absurd hp (by simp [scL])⟩) htx)
  have HT2 := Lib.hid (fun W g (hW : Ready W) (hb : Blk W g 3 (iarr (List.replicate (8150 + q) 0))) => rsctext_any (scL (8150 + q)) none (some ⟨g, 0, none⟩) 0 0 (8150 + q) (8150 + q) W (scL_at _ (by omega) W g hb) (scL_ok _) hW.tabs.pow (fun _ => ⟨by omega, fun p hp => absurd hp (by simp [scL])⟩) htx)
  have HRW := Lib.hid (fun W g (hb : Blk W g 3 (iarr (List.replicate (8150 + q) 0))) => rraw_any (scL (8150 + q)) none (some ⟨g, 0, none⟩) 0 0 (8150 + q) (8150 + q) W (scL_at _ (by omega) W g hb) (scL_ok _) (by omega) htx (fun p hp => absurd hp (by simp [scL])))
  have HPS := Lib.hid (fun W hW => scL_parse (8150 + q) (by omega) W hW)
  have HE : Hid (scArr (scL (8150 + q)) none (some ⟨0, 0, none⟩) 0 0 (8150 + q) (8150 + q) = scArr (scL (8150 + q)) none (some ⟨0, 0, none⟩) 0 0 (8150 + q) (8150 + q)) := Lib.hid rfl
  unfold ScText at HT1 HT2
  generalize hte : (scText (scL (8150 + q))).2 = te at *
  generalize htt : (scText (scL (8150 + q))).1 = tt at *
  generalize hrr : (scL (8150 + q)).raw = rr at *
  unfold scArr at HT1 HT2 HRW
  simp only [scL] at HT1 HT2 HRW
  clear hR htx hrw HE hte htt hrr
  go_enter Tryz.func4, Tryz.ntmps4
  go_wp2_with fail
  refine (HAW.out _ HR.out).mono ?_
  rintro y w1 ⟨rfl, hb1⟩
  have HB1 := Lib.hid hb1
  clear hb1 HAW
  have hz := Blk.new_at w1 3 (iarr (List.replicate (8150 + q) 0)) (g := w1.heap.size) rfl
  have HZ := Lib.hid (hz.alloc (.cells #[.int .i64 1, .int .i64 1, .int .i64 1, .int .i64 1, .slice none 0 0, .int .i64 1, .slice (some ⟨w1.heap.size, 0, none⟩) (8150 + q) (8150 + q)] 33))
  have HG := Lib.hid (Blk.new_at (w1.alloc (.cells (iarr (List.replicate (8150 + q) 0)) 3)) 33 #[.int .i64 1, .int .i64 1, .int .i64 1, .int .i64 1, .slice none 0 0, .int .i64 1, .slice (some ⟨w1.heap.size, 0, none⟩) (8150 + q) (8150 + q)] (g := w1.heap.size + 1) (by simp))
  have HB2 := Lib.hid (sub_alloc (sub_alloc HB1.out (.cells (iarr (List.replicate (8150 + q) 0)) 3)) (.cells #[.int .i64 1, .int .i64 1, .int .i64 1, .int .i64 1, .slice none 0 0, .int .i64 1, .slice (some ⟨w1.heap.size, 0, none⟩) (8150 + q) (8150 + q)] 33))
  clear hz HB1
  go_wp2_with fail
  refine (HT1.out _ _ (HR.out.up HB2.out) HZ.out).mono ?_
  rintro y w2 ⟨rfl, hb2⟩
  have HZ2 := Lib.hid (HZ.out.later hb2)
  have HG2 := Lib.hid (HG.out.later hb2)
  have HB3 := Lib.hid (sub_trans HB2.out hb2)
  clear hb2 HZ HG HB2 HT1
  generalize w1.heap.size = zb at *
  have c0 := HG2.out.cell 0
  have c1 := HG2.out.cell 1
  have c2 := HG2.out.cell 2
  have c3 := HG2.out.cell 3
  have c4 := HG2.out.cell 4
  have c5 := HG2.out.cell 5
  have c6 := HG2.out.cell 6
  simp only [List.getElem?_toArray, List.getElem?_cons_succ, List.getElem?_cons_zero] at c0 c1 c2 c3 c4 c5 c6
  go_wp2_with fail
  refine (HT2.out _ _ (HR.out.up HB3.out) HZ2.out).mono ?_
  rintro y w3 ⟨rfl, hb3⟩
  have HZ3 := Lib.hid (HZ2.out.later hb3)
  have HG3 := Lib.hid (HG2.out.later hb3)
  have HB4 := Lib.hid (sub_trans HB3.out hb3)
  clear hb3 HZ2 HG2 HB3 HT2 c0 c1 c2 c3 c4 c5 c6
  have c0 := HG3.out.cell 0
  have c1 := HG3.out.cell 1
  have c2 := HG3.out.cell 2
  have c3 := HG3.out.cell 3
  have c4 := HG3.out.cell 4
  have c5 := HG3.out.cell 5
  have c6 := HG3.out.cell 6
  simp only [List.getElem?_toArray, List.getElem?_cons_succ, List.getElem?_cons_zero] at c0 c1 c2 c3 c4 c5 c6
  go_wp2_with fail
  refine (HRW.out _ _ HZ3.out).mono ?_
  rintro y w4 ⟨rfl, hb4⟩
  have HB5 := Lib.hid (sub_trans HB4.out hb4)
  clear hb4 HZ3 HG3 HB4 HRW c0 c1 c2 c3 c4 c5 c6
  go_wp2_with fail
  refine (HPS.out _ (HR.out.up HB5.out)).mono ?_
  rintro y w5 ⟨a, b, c, d, A, m, j, f, A2, m2, j2, rfl, hb5⟩
  have HB6 := Lib.hid (sub_alloc (sub_trans HB5.out hb5) (.cells #[.int .i64 a, .int .i64 b, .int .i64 c, .int .i64 d, .slice A m j, .int .i64 f, .slice A2 m2 j2] 33))
  clear hb5 HB5 HPS
  have hss : (tt.toList == tt.toList) = true := by simp
  go_wp2
  go_ret
  exact ⟨rfl, HB6.out⟩
end Go.Proofs.YteljecehppeamaaGreatDoor
