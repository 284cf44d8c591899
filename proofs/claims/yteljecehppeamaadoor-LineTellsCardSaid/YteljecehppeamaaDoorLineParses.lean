/-
  LineParses walked (chapter 41). Conditions: strconv's table and errors lie in memory, a number in internal/bytealg.MaxLen.
-/
import Derived.Test.YteljecehppeamaaDoorLinAwake
import Derived.Test.YteljecehppeamaaDoorLinRp
namespace Go.Fw
open Go.RowKit
theorem parse_ok {s : ByteArray} {x : Cl} (hs : s.size ≤ 1000) (h : parseC s = (x, 0)) : x.ok ∧ textE x = 0 ∧ lineB x = s := by
  by_cases hk : kindW (headW (wordsB 32 s)) = 0
  · rw [parseC_none hk] at h
    cases h
  · cases hr : readC (kindW (headW (wordsB 32 s))) (wordsB 32 s) with
    | none =>
      rw [parseC_form hk hr] at h
      cases h
    | some y =>
      rw [parseC_told hk hr] at h
      obtain ⟨rfl, hl⟩ := told_text hr h
      have hyo := readC_ok hr (fun z hz => by have := wordsB_sizes hz; omega)
      refine ⟨hyo, ?_, hl⟩
      have h8 := kindW_le (headW (wordsB 32 s))
      have hxk := (readC_id hr).1
      unfold textE
      rw [if_neg (by omega), if_neg]
      rintro ⟨h1, h2⟩
      rw [toldC_id hl h1 h2] at h
      cases h
end Go.Fw
namespace Go.Proofs.YteljecehppeamaaDoor
open Go.RowKit Go.Fw Go.Shelf
set_option maxHeartbeats 1000000
set_option maxRecDepth 100000
set_option linter.unusedVariables false
set_option linter.unusedSimpArgs false
theorem wf_i64 {n : Int} (h : In64 n) : (Lit.int .i64 n).wf = true := by
  unfold In64 at h
  simp [Lit.wf, IntKind.min, IntKind.max, IntKind.signed, IntKind.bits]
  omega
theorem kl_int {P : Program} {t : TypeId} {n : Int} (d : Nat) (hu : P.underlying t = some (.int .i64)) (h : In64 n) : P.keyLits (d + 1) t [.int .i64 n] = some [.int .i64 n] := by
  simp [Program.keyLits, hu, wf_i64 h]
theorem kl_str {P : Program} {t : TypeId} {s : ByteArray} (d : Nat) (hu : P.underlying t = some .string) (h : s.size ≤ maxLen) : P.keyLits (d + 1) t [.string s] = some [.string s.data.toList] := by
  simp only [Program.keyLits, hu]
  rw [if_pos h]
theorem kl_struct {P : Program} {t : TypeId} {fs : Array Field} {cs : List Value} {ls : List (List Lit)} (d : Nat) (hu : P.underlying t = some (.struct fs)) (hl : cs.length = P.cellsOf t) (hn : fs.all (·.name != "_") = true) (hm : (fs.toList.mapM fun f => P.keyLits d f.type ((cs.drop f.offset).take (P.cellsOf f.type))) = some ls) : P.keyLits (d + 1) t cs = some ls.flatten := by
  simp only [Program.keyLits, hu]
  rw [if_pos ⟨hl, hn⟩, hm]
  rfl
theorem cl_lits (x : Cl) (hx : x.ok) : ∃ ls, Tryd.prog.keyLits 8 35 x.arr.toList = some ls := by
  have c1 : Tryd.prog.cellsOf 3 = 1 := by kernel_rfl
  have c2 : Tryd.prog.cellsOf 2 = 1 := by kernel_rfl
  have c3 : Tryd.prog.cellsOf 9 = 1 := by kernel_rfl
  have c4 : Tryd.prog.cellsOf 23 = 6 := by kernel_rfl
  have k1 := kl_int (t := 3) 6 Tryd.underlying3 hx.k
  have k2 := kl_int (t := 2) 6 Tryd.underlying2 hx.tick
  have k3 := kl_int (t := 2) 6 Tryd.underlying2 hx.value
  have k4 := kl_int (t := 3) 6 Tryd.underlying3 hx.handle
  have k5 := kl_str (t := 9) 6 Tryd.underlying9 hx.idm
  have p1 := kl_int (t := 2) 5 Tryd.underlying2 hx.pol.1
  have p2 := kl_int (t := 2) 5 Tryd.underlying2 hx.pol.2.1
  have p3 := kl_int (t := 2) 5 Tryd.underlying2 hx.pol.2.2.1
  have p4 := kl_int (t := 2) 5 Tryd.underlying2 hx.pol.2.2.2.1
  have p5 := kl_int (t := 2) 5 Tryd.underlying2 hx.pol.2.2.2.2.1
  have p6 := kl_int (t := 2) 5 Tryd.underlying2 hx.pol.2.2.2.2.2
  have pp := kl_struct (P := Tryd.prog) (t := 23) (cs := [.int .i64 x.a, .int .i64 x.b, .int .i64 x.c, .int .i64 x.d, .int .i64 x.e, .int .i64 x.f]) (ls := [[.int .i64 x.a], [.int .i64 x.b], [.int .i64 x.c], [.int .i64 x.d], [.int .i64 x.e], [.int .i64 x.f]]) 6 Tryd.underlying23 (by rw [c4]; rfl) (by kernel_rfl)
    (by simp only [List.mapM_cons, List.mapM_nil, c2, List.drop_succ_cons, List.drop_zero, List.take_succ_cons, List.take_zero, p1, p2, p3, p4, p5, p6]; rfl)
  refine ⟨_, kl_struct (P := Tryd.prog) (t := 35) (ls := [[.int .i64 x.k], [.string x.id.data.toList], [.int .i64 x.tick], [.int .i64 x.value], [.int .i64 x.handle], [[.int .i64 x.a], [.int .i64 x.b], [.int .i64 x.c], [.int .i64 x.d], [.int .i64 x.e], [.int .i64 x.f]].flatten]) 7 Tryd.underlying35 (show 11 = _ by kernel_rfl) (by kernel_rfl) ?_⟩
  simp only [Cl.arr, List.mapM_cons, List.mapM_nil, c1, c2, c3, c4, List.drop_succ_cons, List.drop_zero, List.take_succ_cons, List.take_zero, k1, k2, k3, k4, k5, pp]
  rfl
theorem cl_neq (x : Cl) (hx : x.ok) (w : World) : (binOp .neq 35 (.agg #[.int .i64 x.k, .string x.id, .int .i64 x.tick, .int .i64 x.value, .int .i64 x.handle, .int .i64 x.a, .int .i64 x.b, .int .i64 x.c, .int .i64 x.d, .int .i64 x.e, .int .i64 x.f]) (.agg #[.int .i64 x.k, .string x.id, .int .i64 x.tick, .int .i64 x.value, .int .i64 x.handle, .int .i64 x.a, .int .i64 x.b, .int .i64 x.c, .int .i64 x.d, .int .i64 x.e, .int .i64 x.f])).run Tryd.prog w = .ok (.bool false) w :=
  neq_self (m := 5) (by decide) (by kernel_rfl) (by kernel_rfl) x.arr (show 11 = _ by kernel_rfl) (cl_lits x hx).choose_spec w
theorem parse_ok2 {s : ByteArray} {x : Cl} {e : Int} (hs : s.size ≤ 1000) (h : parseC s = (x, e)) : x.ok := by
  by_cases hk : kindW (headW (wordsB 32 s)) = 0
  · rw [parseC_none hk] at h
    injection h with h _
    subst h
    exact Cl.zero_ok
  · cases hr : readC (kindW (headW (wordsB 32 s))) (wordsB 32 s) with
    | none =>
      rw [parseC_form hk hr] at h
      injection h with h _
      subst h
      exact Cl.zero_ok
    | some y =>
      rw [parseC_told hk hr] at h
      have hyo := readC_ok hr (fun z hz => by have := wordsB_sizes hz; omega)
      unfold toldC at h
      split at h
      · split at h
        · injection h with h _
          subst h
          exact Cl.zero_ok
        · injection h with h _
          subst h
          exact hyo
      · injection h with h _
        subst h
        exact Cl.zero_ok
theorem lparses_long (s : ByteArray) (w : World) (hR : Ready w) (hs : s.size ≤ maxLen) (h : 300 < s.size) : Calls Tryd.prog 6 #[.string s] w fun y w' => y = .returned (.bool true) ∧ Below w.heap.size w w' := by
  unfold maxLen at hs
  have hI : (300 : Int) < s.size := by omega
  have HA := Lib.hid (la_awake w hR)
  clear hR
  go_enter Tryd.func6, Tryd.ntmps6
  go_wp2_with fail
  refine HA.out.mono ?_
  rintro y w1 ⟨rfl, hb⟩
  go_wp2
  go_ret
  exact ⟨rfl, hb⟩
theorem lparses_few (s : ByteArray) (w : World) (hR : Ready w) (h : s.size ≤ 300) : Calls Tryd.prog 6 #[.string s] w fun y w' => y = .returned (.bool true) ∧ Below w.heap.size w w' := by
  have hI : ¬ (300 : Int) < s.size := by omega
  have HA := Lib.hid (la_awake w hR)
  have HP := Lib.hid (fun W hW => parse_any s W hW (by omega))
  have HQ := Lib.hid (fun W => rparse_any s W (by omega))
  have HOK := Lib.hid (fun x => parse_ok (s := s) (x := x) (by omega))
  have HOK2 := Lib.hid (fun x e => parse_ok2 (s := s) (x := x) (e := e) (by omega))
  have HR := Lib.hid hR
  have HS : Hid (s.size ≤ 300) := Lib.hid h
  clear hR h
  generalize hps : parseC s = ps at *
  clear hps
  obtain ⟨x, e⟩ := ps
  have hxo2 := HOK2.out x e rfl
  have hne := fun W => cl_neq x hxo2 W
  have HZ : Hid (e = 0 → x.ok ∧ textE x = 0 ∧ lineB x = s) := Lib.hid (fun he => HOK.out x (by rw [he]))
  clear HOK HOK2 hxo2
  go_enter Tryd.func6, Tryd.ntmps6
  go_wp2_with fail
  refine HA.out.mono ?_
  rintro y w1 ⟨rfl, h1⟩
  go_wp2_with fail
  refine (HP.out _ (HR.out.up h1)).mono ?_
  rintro y w2 ⟨rfl, hb2⟩
  have h2 := sub_alloc (sub_trans h1 hb2) (.cells x.arr 35)
  have g2 := Blk.new_at w2 35 x.arr (g := w2.heap.size) rfl
  have H2 := Lib.hid (And.intro g2 h2)
  clear g2 h2 h1 hb2
  simp only [Cl.val, Cl.arr]
  go_wp2_with fail
  refine (HQ.out _).mono ?_
  rintro y w3 ⟨rfl, hb3⟩
  have h4 := sub_alloc (sub_trans H2.out.2 hb3) (.cells x.arr 35)
  have g4 := (H2.out.1.later hb3).alloc (.cells x.arr 35)
  have g5 := Blk.new_at w3 35 x.arr (g := w3.heap.size) rfl
  have H4 := Lib.hid (And.intro g4 (And.intro g5 h4))
  clear g4 g5 h4 hb3 H2
  simp only [Cl.val, Cl.arr]
  obtain ⟨c0, c1, c2, c3, c4, c5, c6, c7, c8, c9, c10⟩ := H4.out.1.c11
  simp only [Cl.arr] at c0 c1 c2 c3 c4 c5 c6 c7 c8 c9 c10
  by_cases he : e = 0
  · subst he
    obtain ⟨hxo, hxe, hxl⟩ := HZ.out rfl
    have HT := Lib.hid (fun W hP => ltext_any x W hP hxo)
    rw [hxe, show textB x = s from by unfold textB; rw [if_pos hxe, hxl]] at HT
    have hss : (s.toList == s.toList) = true := by simp
    clear hxo hxe hxl
    go_wp2_with fail
    refine (HT.out _ (HR.out.up H4.out.2.2).tabs.pow).mono ?_
    rintro y w5 ⟨rfl, hb5⟩
    have h5 := sub_trans H4.out.2.2 hb5
    go_wp2
    go_ret
    exact ⟨by first | rfl | simp, h5⟩
  · have e1 : (e == 0) = false := by simpa using he
    have e2 : (e != 0) = true := by simpa using he
    have e3 : (e != e) = false := by simp
    clear he
    go_wp2
    go_ret
    exact ⟨rfl, H4.out.2.2⟩
theorem lineParses_walk (s : ByteArray) (w : World) (hR : Ready w) (hs : s.size ≤ maxLen) : Calls Tryd.prog 6 #[.string s] w fun y w' => y = .returned (.bool true) ∧ Below w.heap.size w w' := by
  by_cases h : 300 < s.size
  · exact lparses_long s w hR hs h
  · exact lparses_few s w hR (by omega)
end Go.Proofs.YteljecehppeamaaDoor
