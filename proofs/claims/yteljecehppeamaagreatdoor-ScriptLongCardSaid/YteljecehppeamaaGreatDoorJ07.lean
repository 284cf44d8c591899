/-
  line.Text walked (chapter 41). Conditions: strconv's table lies in memory; numbers of 64 bits.
-/
import Derived.Test.YteljecehppeamaaGreatDoorJ04
import Derived.Test.YteljecehppeamaaGreatDoorJ06
import Derived.Test.YteljecehppeamaaGreatDoorJ05
namespace Go.Fw
open Go.RowKit
set_option linter.unusedVariables false
theorem strs_snoc (l : List ByteArray) (x : ByteArray) : strs (l ++ [x]) = strs l ++ [.string x] := by simp [strs]
/-- m elements more, which lie in a block that has just been laid -/
theorem wp_append_manyG {P : Program} {s : Nat} {w : World} {o : Oper} {a : Act} {K : Act → World → Prop} {Q : Exit → Act → World → Prop} {t e e' : TypeId} {z : Value} {bytes : Nat} (hT : ElemS P t e z s bytes) (hs0 : 0 < s)
    (sl x : Operand) (ho : o.op = .call { callee := .builtin .append, args := #[sl, x], argTypes := #[t, t] })
    {v : Value} {n B g m : Nat} {xs : List Value} (hs : a.eval sl = v) (hm : w.ownsRow B e s v n xs) (hB : B ≤ w.heap.size) (hg : g = w.heap.size) {cs : Array Value} (hx : a.eval x = .slice (some ⟨g, 0, none⟩) m m) (hcs : cs.size = m * s) (h1 : ∀ u ∈ cs.toList, u.oneCell' = true)
    (hlen : (n + m) * bytes ≤ 140737488355328) (hle : n + m ≤ maxLen)
    (h : ∀ v' w', w'.ownsRow B e s v' (n + m) (xs ++ cs.toList) → w.grownBy w' v.ownBlock → K (a.put o.dst v') w') :
    o.wp P a (w.alloc (.cells cs e')) K Q := by
  obtain ⟨i, hi, hz, hsz, hby⟩ := info_parts hT.info
  refine wp_append_any (w.alloc (.cells cs e')) sl x t ho B e i z s bytes hT.under hi hz hsz hby hT.cells hs0 v n xs hs (hm.alloc _) _ _ m m cs.toList hx (reads_newS w e' cs s m g _ hcs hg rfl) h1 hle hlen (by simp; omega) fun v' w' h2 h3 _ => ?_
  have hg : w.grownBy w' v.ownBlock := ⟨h3.os, h3.tape, h3.output, Nat.le_trans (by simp) h3.size, fun k hk hne => (h3.block k (by simp; omega) hne).trans (Below.heap_alloc w _ k hk)⟩
  exact h v' w' h2 hg
theorem wpList_append_manyG {P : Program} {s : Nat} {w : World} {ops : Array Oper} {rest : List Oper} {o : Oper} {a : Act} {Q : Exit → Act → World → Prop} {t e e' : TypeId} {z : Value} {bytes : Nat} (hT : ElemS P t e z s bytes) (hs0 : 0 < s)
    (hgd : o.guard = none) (sl x : Operand) (ho : o.op = .call { callee := .builtin .append, args := #[sl, x], argTypes := #[t, t] })
    {v : Value} {n B g m : Nat} {xs : List Value} (hs : a.eval sl = v) (hm : w.ownsRow B e s v n xs) (hB : B ≤ w.heap.size) (hg : g = w.heap.size) {cs : Array Value} (hx : a.eval x = .slice (some ⟨g, 0, none⟩) m m) (hcs : cs.size = m * s) (h1 : ∀ u ∈ cs.toList, u.oneCell' = true)
    (hlen : (n + m) * bytes ≤ 140737488355328) (hle : n + m ≤ maxLen)
    (h : ∀ v' w', w'.ownsRow B e s v' (n + m) (xs ++ cs.toList) → w.grownBy w' v.ownBlock → wpList P ops Q rest (a.put o.dst v') w') :
    wpList P ops Q (o :: rest) a (w.alloc (.cells cs e')) :=
  wpList_plain hgd fun _ hK => wp_append_manyG hT hs0 sl x ho hs hm hB hg hx hcs h1 hlen hle fun v' w' h2 h3 => hK _ _ (h v' w' h2 h3)
theorem itoa_l {n : Int} (h : In64 n) : (Lib.itoa n).length ≤ 21 := by have := Lib.itoa_length_le n h.1 h.2; omega
theorem vbB_out {k : Int} (h : k < 1 ∨ 8 < k) : vbB k.toNat = ByteArray.empty := by
  have e : vbS k.toNat = [] := by
    rcases h with h | h
    · rw [show k.toNat = 0 by omega]
      rfl
    · obtain ⟨m, hm⟩ : ∃ m, k.toNat = m + 9 := ⟨k.toNat - 9, by omega⟩
      rw [hm]
      rfl
  unfold vbB
  rw [e]
  rfl
end Go.Fw
namespace Go.Proofs.YteljecehppeamaaGreatDoor
open Go.RowKit Go.Fw Go.Shelf
set_option maxHeartbeats 2000000
set_option maxRecDepth 100000
set_option linter.unusedVariables false
set_option linter.unusedSimpArgs false
def verbsA : Array Value := #[.string ⟨#[]⟩, .string ⟨#[105, 110, 103, 101, 115, 116]⟩, .string ⟨#[116, 114, 105, 109]⟩, .string ⟨#[115, 110, 97, 112]⟩, .string ⟨#[102, 114, 101, 101]⟩, .string ⟨#[108, 111, 111, 107]⟩, .string ⟨#[115, 101, 116]⟩, .string ⟨#[114, 101, 97, 100]⟩, .string ⟨#[115, 104, 117, 116]⟩]
theorem verbsA_at {k : Nat} (h : k < 9) : verbsA[k]? = some (.string (vbB k)) := by
  have hor : k = 0 ∨ k = 1 ∨ k = 2 ∨ k = 3 ∨ k = 4 ∨ k = 5 ∨ k = 6 ∨ k = 7 ∨ k = 8 := by omega
  rcases hor with rfl | rfl | rfl | rfl | rfl | rfl | rfl | rfl | rfl <;> rfl
theorem idx_vb {k : Nat} (W : World) (h : k < 9) : (Instr.index 91 (.agg verbsA) (.int .i64 (k : Int))).run Tryz.prog W = .ok (.string (vbB k)) W :=
  run_index_arr W Tryz.underlying91 (inf := (Tryz.prog.info? 9).getD default) (by kernel_rfl) (by kernel_rfl) (by kernel_rfl) h (verbsA_at h)
theorem verbs_any (w : World) : Calls Tryz.prog 54 #[] w fun x w' => x = .returned (.agg verbsA) ∧ Below w.heap.size w w' := by
  unfold verbsA
  go_enter Tryz.func54, Tryz.ntmps54
  go_wp2
  exact bodyPost_ret (v := .agg verbsA) (by simp [verbsA, results, Tryz.results54, go_sem]; try rfl) rfl ⟨rfl, by simpa using sub_alloc (Below.refl _ w) _⟩
theorem verb_any (k : Int) (w : World) : Calls Tryz.prog 37 #[.int .i64 k] w fun x w' => x = .returned (.string (vbB k.toNat)) ∧ Below w.heap.size w w' := by
  by_cases h1 : k < 1
  · rw [vbB_out (.inl h1)]
    go_enter Tryz.func37, Tryz.ntmps37
    go_wp2
    go_ret
    exact ⟨rfl, Below.refl _ _⟩
  by_cases h2 : 8 < k
  · rw [vbB_out (.inr h2)]
    go_enter Tryz.func37, Tryz.ntmps37
    go_wp2
    go_ret
    exact ⟨rfl, Below.refl _ _⟩
  obtain ⟨n, rfl⟩ : ∃ n : Nat, k = n := ⟨k.toNat, by omega⟩
  have hx := fun W => idx_vb (k := n) W (by omega)
  rw [Int.toNat_natCast]
  generalize vbB n = V at *
  go_enter Tryz.func37, Tryz.ntmps37
  go_wp2_with fail
  refine (verbs_any _).mono ?_
  rintro x w1 ⟨rfl, hb⟩
  generalize verbsA = VA at *
  go_wp2
  go_ret
  exact ⟨rfl, hb⟩
theorem named_any (k : Int) (w : World) : Calls Tryz.prog 39 #[.int .i64 k] w fun x w' => x = .returned (.bool (namedK k)) ∧ w = w' := by
  by_cases h1 : k = 1
  · subst h1
    go_enter Tryz.func39, Tryz.ntmps39
    go_wp2
    go_ret
    exact ⟨rfl, rfl⟩
  by_cases h5 : k = 5
  · subst h5
    go_enter Tryz.func39, Tryz.ntmps39
    go_wp2
    go_ret
    exact ⟨rfl, rfl⟩
  by_cases h6 : k = 6
  · subst h6
    go_enter Tryz.func39, Tryz.ntmps39
    go_wp2
    go_ret
    exact ⟨rfl, rfl⟩
  by_cases h7 : k = 7
  · subst h7
    go_enter Tryz.func39, Tryz.ntmps39
    go_wp2
    go_ret
    exact ⟨rfl, rfl⟩
  have e1 : (k == 1) = false := by simpa using h1
  have e5 : (k == 5) = false := by simpa using h5
  have e6 : (k == 6) = false := by simpa using h6
  have e7 : (k == 7) = false := by simpa using h7
  have HF : Hid (namedK k = false) := Lib.hid (by unfold namedK; rw [e1, e5, e6, e7]; rfl)
  clear h1 h5 h6 h7
  go_enter Tryz.func39, Tryz.ntmps39
  go_wp2
  go_ret
  exact ⟨ret_b HF.out.symm, rfl⟩
theorem rnamed_any (k : Int) (w : World) : Calls Tryz.prog 46 #[.int .i64 k] w fun x w' => x = .returned (.bool (namedK k)) ∧ w = w' := by
  by_cases h1 : k = 1
  · subst h1
    go_enter Tryz.func46, Tryz.ntmps46
    go_wp2
    go_ret
    exact ⟨rfl, rfl⟩
  by_cases h5 : k = 5
  · subst h5
    go_enter Tryz.func46, Tryz.ntmps46
    go_wp2
    go_ret
    exact ⟨rfl, rfl⟩
  by_cases h6 : k = 6
  · subst h6
    go_enter Tryz.func46, Tryz.ntmps46
    go_wp2
    go_ret
    exact ⟨rfl, rfl⟩
  by_cases h7 : k = 7
  · subst h7
    go_enter Tryz.func46, Tryz.ntmps46
    go_wp2
    go_ret
    exact ⟨rfl, rfl⟩
  have e1 : (k == 1) = false := by simpa using h1
  have e5 : (k == 5) = false := by simpa using h5
  have e6 : (k == 6) = false := by simpa using h6
  have e7 : (k == 7) = false := by simpa using h7
  have HF : Hid (namedK k = false) := Lib.hid (by unfold namedK; rw [e1, e5, e6, e7]; rfl)
  clear h1 h5 h6 h7
  go_enter Tryz.func46, Tryz.ntmps46
  go_wp2
  go_ret
  exact ⟨ret_b HF.out.symm, rfl⟩
theorem number_any (n : Int) (hn : In64 n) (w : World) (hT : Pow w) : Calls Tryz.prog 40 #[.int .i64 n] w fun x w' => x = .returned (.string (decB n)) ∧ Below w.heap.size w w' := by
  go_enter Tryz.func40, Tryz.ntmps40
  go_wp2_with fail
  refine (fmt_any n hn w hT).mono ?_
  rintro x w1 ⟨rfl, hb⟩
  go_wp2
  go_ret
  exact ⟨rfl, hb⟩
theorem vb_ne : ∀ k, 1 ≤ k → k ≤ 8 → (vbB k).toList.isEmpty = false := by
  intro k h1 h2
  have hor : k = 1 ∨ k = 2 ∨ k = 3 ∨ k = 4 ∨ k = 5 ∨ k = 6 ∨ k = 7 ∨ k = 8 := by omega
  rcases hor with rfl | rfl | rfl | rfl | rfl | rfl | rfl | rfl <;> (rw [ByteArray.toList_eq]; rfl)
def textB (x : Cl) : ByteArray := if textE x = 0 then lineB x else ByteArray.empty
theorem ltext_bad (x : Cl) (w : World) (h : x.k < 1 ∨ 8 < x.k) :
    Calls Tryz.prog 21 #[x.val] w fun y w' => y = .returned (.tuple #[.string ByteArray.empty, .int .i64 14]) ∧ Below w.heap.size w w' := by
  have HV := Lib.hid (fun W => verb_any x.k W)
  rw [vbB_out h] at HV
  have HB := Lib.hid (fun o => sub_alloc (Below.refl _ w) o)
  have g0 := Blk.new_at w 50 x.arr (g := w.heap.size) rfl
  unfold Cl.val Cl.arr at *
  have c0 := g0.cell 0
  simp at c0
  clear g0
  go_enter Tryz.func21, Tryz.ntmps21
  go_wp2_with fail
  refine (HV.out _).mono ?_
  rintro y w1 ⟨rfl, hb⟩
  have h1 := sub_trans (HB.out _) hb
  clear hb
  go_wp2
  exact bodyPost_ret (v := .tuple #[.string ByteArray.empty, .int .i64 14]) (by simp [results, Tryz.results21, go_sem]; try rfl) rfl ⟨rfl, h1⟩
theorem ltext_id (x : Cl) (n : Nat) (w : World) (h1 : 1 ≤ n) (h8 : n ≤ 8) (hk : x.k = (n : Int)) (hn : namedK x.k = true) (hi : idOk x.id = false) (hs : x.id.size ≤ maxLen) :
    Calls Tryz.prog 21 #[x.val] w fun y w' => y = .returned (.tuple #[.string ByteArray.empty, .int .i64 2]) ∧ Below w.heap.size w w' := by
  have HV := Lib.hid (fun W => verb_any x.k W)
  have HN := Lib.hid (fun W => named_any x.k W)
  have HI := Lib.hid (fun W => idcheck_any x.id hs W)
  rw [hn] at HN
  rw [idE_no hi] at HI
  rw [hk, Int.toNat_natCast, ← hk] at HV
  have hv1 := vb_ne n h1 h8
  have hv2 : ((vbB n).toList = []) = False := by
    rw [eq_iff_iff]
    constructor
    · intro e
      rw [e] at hv1
      cases hv1
    · exact False.elim
  generalize vbB n = V at *
  have HB := Lib.hid (fun o => sub_alloc (Below.refl _ w) o)
  have HG := Lib.hid (Blk.new_at w 50 x.arr (g := w.heap.size) rfl)
  clear hn hi hk h1 h8
  unfold Cl.val Cl.arr at *
  have c0 := HG.out.cell 0
  have c1 := HG.out.cell 1
  simp at c0 c1
  go_enter Tryz.func21, Tryz.ntmps21
  go_wp2_with fail
  refine (HV.out _).mono ?_
  rintro y w1 ⟨rfl, hb⟩
  have h1 := sub_trans (HB.out _) hb
  have g1 := HG.out.later hb
  have c0 := g1.cell 0
  have c1 := g1.cell 1
  simp at c0 c1
  clear hb
  go_wp2_with fail
  refine (HI.out _).mono ?_
  rintro y w2 ⟨rfl, hb⟩
  have h2 := sub_trans h1 hb
  have g2 := g1.later hb
  have c0 := g2.cell 0
  simp at c0
  clear hb h1 g1
  go_wp2_with fail
  refine (HN.out _).mono ?_
  rintro y w3 ⟨rfl, rfl⟩
  go_wp2
  exact bodyPost_ret (v := .tuple #[.string ByteArray.empty, .int .i64 2]) (by simp [results, Tryz.results21, go_sem]; try rfl) rfl ⟨rfl, h2⟩
theorem ltext_1 (x : Cl) (w : World) (hT : Pow w) (hk : x.k = 1) (hx : x.ok) (hi : idOk x.id = true) :
    Calls Tryz.prog 21 #[x.val] w fun y w' => y = .returned (.tuple #[.string (lineB x), .int .i64 0]) ∧ Below w.heap.size w w' := by
  have HV := Lib.hid (fun W => verb_any 1 W)
  have HN := Lib.hid (fun W => named_any 1 W)
  have HI := Lib.hid (fun W => idcheck_any x.id hx.idm W)
  rw [idE_yes hi] at HI
  obtain ⟨_, i2, i3, i4, i6, _⟩ := hx
  have HV : Hid (∀ W, Calls Tryz.prog 37 #[.int .i64 1] W fun x w' => x = .returned (.string (vbB 1)) ∧ Below W.heap.size W w') := HV
  have HN : Hid (∀ W, Calls Tryz.prog 39 #[.int .i64 1] W fun x w' => x = .returned (.bool true) ∧ W = w') := HN
  have hv1 := vb_ne 1 (by decide) (by decide)
  have hv2 : ((vbB 1).toList = []) = False := by
    rw [eq_iff_iff]
    constructor
    · intro e
      rw [e] at hv1
      cases hv1
    · exact False.elim
  have hfin : joinS 32 ([vbB 1, x.id, decB x.tick, decB x.value].map (·.data.toList)) = joinS 32 (lineWs x) := by
    simp [lineWs, hk, vbB_list, decB_list]
  have hl0 : x.id.data.toList.length ≤ 20 := by have := (idOk_at hi).2.1; simpa using this
  have hl1 := itoa_l i2
  have hl2 := itoa_l i3
  have hlen : (joinS 32 ([vbB 1, x.id, decB x.tick, decB x.value].map (·.data.toList))).length ≤ 100000 := by
    have hlv := vbS_len 1
    simp [joinS, vbB_list, decB_list, polB_list] at *
    try omega
  have HFIN : Hid (lineB x = ⟨(joinS 32 ([vbB 1, x.id, decB x.tick, decB x.value].map (·.data.toList))).toArray⟩) := Lib.hid (by unfold lineB; rw [hfin])
  have HLEN := Lib.hid hlen
  clear hfin hlen hl0 hl1 hl2
  have HD1 := Lib.hid (fun W hP => number_any x.tick i2 W hP)
  generalize decB x.tick = D1 at *
  have HD2 := Lib.hid (fun W hP => number_any x.value i3 W hP)
  generalize decB x.value = D2 at *
  generalize vbB 1 = V at *
  have HB := Lib.hid (fun o => sub_alloc (Below.refl _ w) o)
  have HT := Lib.hid hT
  have HG := Lib.hid (Blk.new_at w 50 x.arr (g := w.heap.size) rfl)
  clear hT hi
  unfold Cl.val Cl.arr at *
  rw [hk] at *
  clear hk
  have c0 := HG.out.cell 0
  have c1 := HG.out.cell 1
  simp at c0 c1
  go_enter Tryz.func21, Tryz.ntmps21
  go_wp2_with fail
  refine (HV.out _).mono ?_
  rintro y w1 ⟨rfl, hb⟩
  have h1 := sub_trans (HB.out _) hb
  have g1 := HG.out.later hb
  have c0 := g1.cell 0
  have c1 := g1.cell 1
  simp at c0 c1
  clear hb
  go_wp2_with fail
  refine (HI.out _).mono ?_
  rintro y w2 ⟨rfl, hb⟩
  have h2 := sub_trans h1 hb
  have g2 := g1.later hb
  have c0 := g2.cell 0
  simp at c0
  clear hb h1 g1
  go_wp2_with fail
  refine (HN.out _).mono ?_
  rintro y w3 ⟨rfl, rfl⟩
  have HG2 := Lib.hid (g2.alloc (.cells #[.string V] 9))
  have HM : Hid (MineS 1 w (w2.alloc (.cells #[.string V] 9)) 9 (.slice (some ⟨w2.heap.size, 0, none⟩) 1 1) 1 (strs [V])) := Lib.hid ⟨own_of_blk (n := 1) (s := 1) (Blk.new_at w2 9 #[.string V] (g := w2.heap.size) rfl) h2.size rfl (by simp [maxLen]), sub_alloc h2 _⟩
  have HR : Hid (Below w.heap.size w w2) := Lib.hid h2
  have HGW := Lib.hid g2
  have gx := HG2.out
  have c0 := gx.cell 0
  have c1 := gx.cell 1
  have c2 := gx.cell 2
  have c3 := gx.cell 3
  have c4 := gx.cell 4
  have c5 := gx.cell 5
  have c6 := gx.cell 6
  have c7 := gx.cell 7
  have c8 := gx.cell 8
  have c9 := gx.cell 9
  have c10 := gx.cell 10
  simp at c0 c1 c2 c3 c4 c5 c6 c7 c8 c9 c10
  clear gx g2 h2 HG HB
  go_wp2
  obtain ⟨WB, hWB⟩ : ∃ WB, w2.alloc (.cells #[.string V] 9) = WB := ⟨_, rfl⟩
  rw [hWB] at HM HG2 ⊢
  have hT0 : Below w2.heap.size w2 WB.drew := by rw [← hWB]; exact (sub_alloc (Below.refl _ _) _).drew
  simp only [hWB] at c0 c1 c2 c3 c4 c5 c6 c7 c8 c9 c10
  clear c0 c1 c2 c3 c4 c5 c6 c7 c8 c9 c10 hWB
  have hS0 : Below WB.heap.size WB WB.drew := (Below.refl _ _).drew
  refine any_start (S := fun W => Below w2.heap.size w2 W) (by kernel_rfl) hT0 ?_
  generalize WB.drew = WD at *
  simp only [List.length_cons, List.length_nil, Nat.reduceAdd, List.size_toArray]
  refine any_pure 0 (v := ?_) rfl (by kernel_rfl) (by intro _ _ _ h; exact h) (by assumption) (by rfl) (fun W hW => ?_) ?_
  rotate_left
  · first | (go_simp; done) | (go_simp; with_reducible rfl)
  try simp only [Act.put, List.setIfInBounds_toArray, List.set_cons_zero, List.set_cons_succ]
  refine any_pure 1 (v := ?_) rfl (by kernel_rfl) (by intro _ _ _ h; exact h) (by assumption) (by rfl) (fun W hW => ?_) ?_
  rotate_left
  · first | (go_simp; done) | (go_simp; with_reducible rfl)
  try simp only [Act.put, List.setIfInBounds_toArray, List.set_cons_zero, List.set_cons_succ]
  refine any_pure 2 (v := ?_) rfl (by kernel_rfl) (by intro _ _ _ h; exact h) (by assumption) (by rfl) (fun W hW => ?_) ?_
  rotate_left
  · have c1 := (HGW.out.later hW).cell 1; simp at c1; first | (go_simp; done) | (go_simp; with_reducible rfl)
  try simp only [Act.put, List.setIfInBounds_toArray, List.set_cons_zero, List.set_cons_succ]
  refine any_pure 3 (v := ?_) rfl (by kernel_rfl) (by intro _ _ _ h; exact h) (by assumption) (by rfl) (fun W hW => ?_) ?_
  rotate_left
  · first | (go_simp; done) | (go_simp; with_reducible rfl)
  try simp only [Act.put, List.setIfInBounds_toArray, List.set_cons_zero, List.set_cons_succ]
  refine any_pure 4 (v := ?_) rfl (by kernel_rfl) (by intro _ _ _ h; exact h) (by assumption) (by rfl) (fun W hW => ?_) ?_
  rotate_left
  · have c2 := (HGW.out.later hW).cell 2; simp at c2; first | (go_simp; done) | (go_simp; with_reducible rfl)
  try simp only [Act.put, List.setIfInBounds_toArray, List.set_cons_zero, List.set_cons_succ]
  refine any_pure 6 (v := ?_) rfl (by kernel_rfl) (by intro _ _ _ h; exact h) (by assumption) (by rfl) (fun W hW => ?_) ?_
  rotate_left
  · first | (go_simp; done) | (go_simp; with_reducible rfl)
  try simp only [Act.put, List.setIfInBounds_toArray, List.set_cons_zero, List.set_cons_succ]
  refine any_pure 7 (v := ?_) rfl (by kernel_rfl) (by intro _ _ _ h; exact h) (by assumption) (by rfl) (fun W hW => ?_) ?_
  rotate_left
  · have c3 := (HGW.out.later hW).cell 3; simp at c3; first | (go_simp; done) | (go_simp; with_reducible rfl)
  try simp only [Act.put, List.setIfInBounds_toArray, List.set_cons_zero, List.set_cons_succ]
  refine any_one 5 (by kernel_rfl) rfl (by rfl) (fun K hK => ?_)
  go_simp
  refine (HD1.out _ (pow_up HT.out (sub_trans HM.out.below hS0))).mono ?_
  rintro y v0 ⟨rfl, hb⟩
  have hS1 := sub_trans hS0 hb
  have hT1 := sub_trans hT0 hb
  refine hK _ _ hT1 ?_
  clear hK hb
  try simp only [Act.put, List.setIfInBounds_toArray, List.set_cons_zero, List.set_cons_succ]
  refine any_one 8 (by kernel_rfl) rfl (by rfl) (fun K hK => ?_)
  go_simp
  refine (HD2.out _ (pow_up HT.out (sub_trans HM.out.below hS1))).mono ?_
  rintro y v1 ⟨rfl, hb⟩
  have hS2 := sub_trans hS1 hb
  have hT2 := sub_trans hT1 hb
  refine hK _ _ hT2 ?_
  clear hK hb
  try simp only [Act.put, List.setIfInBounds_toArray, List.set_cons_zero, List.set_cons_succ]
  refine any_one 9 (by kernel_rfl) rfl (by rfl) (fun K hK => ?_)
  go_simp
  have hm := HM.out.later hS2
  have hlow : w2.heap.size ≤ v1.heap.size := hT2.size
  refine hK _ _ (sub_alloc hT2 _) ?_
  clear hK
  try simp only [Act.put, List.setIfInBounds_toArray, List.set_cons_zero, List.set_cons_succ]
  refine any_one 10 (by kernel_rfl) rfl (by rfl) (fun K hK => ?_)
  refine wp_append_manyG (cs := #[.string x.id, .string D1, .string D2]) elemS (by decide) (.tmp 29) (.tmp 38) rfl rfl hm.own hm.le rfl rfl rfl (by simp [Value.oneCell']) (by omega) (by unfold maxLen; omega) ?_
  intro v' w' hm' hg'
  have hT9 : Below w2.heap.size w2 w' := hT2.grown hg' hlow (fun g9 e9 => by have e8 : some w2.heap.size = some g9 := e9; injection e8 with e8; omega)
  refine hK _ _ hT9 ?_
  clear hK
  try simp only [Act.put, List.setIfInBounds_toArray, List.set_cons_zero, List.set_cons_succ]
  refine any_pure 11 (v := ?_) rfl (by kernel_rfl) (by intro _ _ _ h; exact h) (by assumption) (by rfl) (fun W hW => ?_) ?_
  rotate_left
  · first | (go_simp; done) | (go_simp; with_reducible rfl)
  try simp only [Act.put, List.setIfInBounds_toArray, List.set_cons_zero, List.set_cons_succ]
  refine any_done (by kernel_rfl) ?_
  have hmz := hm.app hg' hm'
  have e9 : strs [V] ++ (#[.string x.id, .string D1, .string D2] : Array Value).toList = strs [V, x.id, D1, D2] := rfl
  rw [e9] at hmz
  clear hm hg' hm' e9
  go_wp2_with fail
  refine (join_any _ [V, x.id, D1, D2] 4 w _ hmz rfl (by decide) HLEN.out (by decide)).mono ?_
  rintro y w5 ⟨rfl, hb5⟩
  have h5 := sub_trans hmz.below hb5
  rw [← HFIN.out]
  go_wp2
  exact bodyPost_ret (v := .tuple #[.string (lineB x), .int .i64 0]) (by simp [results, Tryz.results21, go_sem]; try rfl) rfl ⟨rfl, h5⟩
theorem ltext_2 (x : Cl) (w : World) (hT : Pow w) (hk : x.k = 2) (hx : x.ok) (hs : x.id.size ≤ maxLen) :
    Calls Tryz.prog 21 #[x.val] w fun y w' => y = .returned (.tuple #[.string (lineB x), .int .i64 0]) ∧ Below w.heap.size w w' := by
  have HV := Lib.hid (fun W => verb_any 2 W)
  have HN := Lib.hid (fun W => named_any 2 W)
  have HI := Lib.hid (fun W => idcheck_any x.id hs W)
  obtain ⟨_, i2, i3, i4, i6, _⟩ := hx
  have HV : Hid (∀ W, Calls Tryz.prog 37 #[.int .i64 2] W fun x w' => x = .returned (.string (vbB 2)) ∧ Below W.heap.size W w') := HV
  have HN : Hid (∀ W, Calls Tryz.prog 39 #[.int .i64 2] W fun x w' => x = .returned (.bool false) ∧ W = w') := HN
  have hv1 := vb_ne 2 (by decide) (by decide)
  have hv2 : ((vbB 2).toList = []) = False := by
    rw [eq_iff_iff]
    constructor
    · intro e
      rw [e] at hv1
      cases hv1
    · exact False.elim
  have hfin : joinS 32 ([vbB 2, decB x.tick].map (·.data.toList)) = joinS 32 (lineWs x) := by
    simp [lineWs, hk, vbB_list, decB_list]
  have hl1 := itoa_l i2
  have hlen : (joinS 32 ([vbB 2, decB x.tick].map (·.data.toList))).length ≤ 100000 := by
    have hlv := vbS_len 2
    simp [joinS, vbB_list, decB_list, polB_list] at *
    try omega
  have HFIN : Hid (lineB x = ⟨(joinS 32 ([vbB 2, decB x.tick].map (·.data.toList))).toArray⟩) := Lib.hid (by unfold lineB; rw [hfin])
  have HLEN := Lib.hid hlen
  clear hfin hlen hl1
  have HD1 := Lib.hid (fun W hP => number_any x.tick i2 W hP)
  generalize decB x.tick = D1 at *
  generalize vbB 2 = V at *
  have HB := Lib.hid (fun o => sub_alloc (Below.refl _ w) o)
  have HT := Lib.hid hT
  have HG := Lib.hid (Blk.new_at w 50 x.arr (g := w.heap.size) rfl)
  clear hT 
  unfold Cl.val Cl.arr at *
  rw [hk] at *
  clear hk
  have c0 := HG.out.cell 0
  have c1 := HG.out.cell 1
  simp at c0 c1
  go_enter Tryz.func21, Tryz.ntmps21
  go_wp2_with fail
  refine (HV.out _).mono ?_
  rintro y w1 ⟨rfl, hb⟩
  have h1 := sub_trans (HB.out _) hb
  have g1 := HG.out.later hb
  have c0 := g1.cell 0
  have c1 := g1.cell 1
  simp at c0 c1
  clear hb
  go_wp2_with fail
  refine (HI.out _).mono ?_
  rintro y w2 ⟨rfl, hb⟩
  have h2 := sub_trans h1 hb
  have g2 := g1.later hb
  have c0 := g2.cell 0
  simp at c0
  clear hb h1 g1
  go_wp2_with fail
  refine (HN.out _).mono ?_
  rintro y w3 ⟨rfl, rfl⟩
  have HG2 := Lib.hid (g2.alloc (.cells #[.string V] 9))
  have HM : Hid (MineS 1 w (w2.alloc (.cells #[.string V] 9)) 9 (.slice (some ⟨w2.heap.size, 0, none⟩) 1 1) 1 (strs [V])) := Lib.hid ⟨own_of_blk (n := 1) (s := 1) (Blk.new_at w2 9 #[.string V] (g := w2.heap.size) rfl) h2.size rfl (by simp [maxLen]), sub_alloc h2 _⟩
  have HR : Hid (Below w.heap.size w w2) := Lib.hid h2
  have HGW := Lib.hid g2
  have gx := HG2.out
  have c0 := gx.cell 0
  have c1 := gx.cell 1
  have c2 := gx.cell 2
  have c3 := gx.cell 3
  have c4 := gx.cell 4
  have c5 := gx.cell 5
  have c6 := gx.cell 6
  have c7 := gx.cell 7
  have c8 := gx.cell 8
  have c9 := gx.cell 9
  have c10 := gx.cell 10
  simp at c0 c1 c2 c3 c4 c5 c6 c7 c8 c9 c10
  clear gx g2 h2 HG HB
  go_wp2_with fail
  refine (HD1.out _ (pow_up HT.out HM.out.below)).mono ?_
  rintro y v0 ⟨rfl, hb⟩
  have hm := HM.out.later hb
  clear hb
  go_wp2_with (at_builtin; go_must (refine wpList_append_manyG (cs := #[.string D1]) elemS (by decide) rfl (.tmp 42) (.tmp 46) rfl rfl hm.own hm.le (by simp) rfl rfl (by simp [Value.oneCell']) (by omega) (by unfold maxLen; omega) ?_); intro v' w' hm' hg')
  have hmz := hm.app hg' hm'
  have e9 : strs [V] ++ (#[.string D1] : Array Value).toList = strs [V, D1] := rfl
  rw [e9] at hmz
  clear hm hg' hm' e9
  go_wp2_with fail
  refine (join_any _ [V, D1] 2 w _ hmz rfl (by decide) HLEN.out (by decide)).mono ?_
  rintro y w5 ⟨rfl, hb5⟩
  have h5 := sub_trans hmz.below hb5
  rw [← HFIN.out]
  go_wp2
  exact bodyPost_ret (v := .tuple #[.string (lineB x), .int .i64 0]) (by simp [results, Tryz.results21, go_sem]; try rfl) rfl ⟨rfl, h5⟩
theorem ltext_3 (x : Cl) (w : World) (hT : Pow w) (hk : x.k = 3) (hx : x.ok) (hs : x.id.size ≤ maxLen) :
    Calls Tryz.prog 21 #[x.val] w fun y w' => y = .returned (.tuple #[.string (lineB x), .int .i64 0]) ∧ Below w.heap.size w w' := by
  have HV := Lib.hid (fun W => verb_any 3 W)
  have HN := Lib.hid (fun W => named_any 3 W)
  have HI := Lib.hid (fun W => idcheck_any x.id hs W)
  obtain ⟨_, i2, i3, i4, i6, _⟩ := hx
  have HV : Hid (∀ W, Calls Tryz.prog 37 #[.int .i64 3] W fun x w' => x = .returned (.string (vbB 3)) ∧ Below W.heap.size W w') := HV
  have HN : Hid (∀ W, Calls Tryz.prog 39 #[.int .i64 3] W fun x w' => x = .returned (.bool false) ∧ W = w') := HN
  have hv1 := vb_ne 3 (by decide) (by decide)
  have hv2 : ((vbB 3).toList = []) = False := by
    rw [eq_iff_iff]
    constructor
    · intro e
      rw [e] at hv1
      cases hv1
    · exact False.elim
  have hfin : joinS 32 ([vbB 3].map (·.data.toList)) = joinS 32 (lineWs x) := by
    simp [lineWs, hk, vbB_list, decB_list]
  have hlen : (joinS 32 ([vbB 3].map (·.data.toList))).length ≤ 100000 := by
    have hlv := vbS_len 3
    simp [joinS, vbB_list, decB_list, polB_list] at *
    try omega
  have HFIN : Hid (lineB x = ⟨(joinS 32 ([vbB 3].map (·.data.toList))).toArray⟩) := Lib.hid (by unfold lineB; rw [hfin])
  have HLEN := Lib.hid hlen
  clear hfin hlen
  generalize vbB 3 = V at *
  have HB := Lib.hid (fun o => sub_alloc (Below.refl _ w) o)
  have HT := Lib.hid hT
  have HG := Lib.hid (Blk.new_at w 50 x.arr (g := w.heap.size) rfl)
  clear hT 
  unfold Cl.val Cl.arr at *
  rw [hk] at *
  clear hk
  have c0 := HG.out.cell 0
  have c1 := HG.out.cell 1
  simp at c0 c1
  go_enter Tryz.func21, Tryz.ntmps21
  go_wp2_with fail
  refine (HV.out _).mono ?_
  rintro y w1 ⟨rfl, hb⟩
  have h1 := sub_trans (HB.out _) hb
  have g1 := HG.out.later hb
  have c0 := g1.cell 0
  have c1 := g1.cell 1
  simp at c0 c1
  clear hb
  go_wp2_with fail
  refine (HI.out _).mono ?_
  rintro y w2 ⟨rfl, hb⟩
  have h2 := sub_trans h1 hb
  have g2 := g1.later hb
  have c0 := g2.cell 0
  simp at c0
  clear hb h1 g1
  go_wp2_with fail
  refine (HN.out _).mono ?_
  rintro y w3 ⟨rfl, rfl⟩
  have HG2 := Lib.hid (g2.alloc (.cells #[.string V] 9))
  have HM : Hid (MineS 1 w (w2.alloc (.cells #[.string V] 9)) 9 (.slice (some ⟨w2.heap.size, 0, none⟩) 1 1) 1 (strs [V])) := Lib.hid ⟨own_of_blk (n := 1) (s := 1) (Blk.new_at w2 9 #[.string V] (g := w2.heap.size) rfl) h2.size rfl (by simp [maxLen]), sub_alloc h2 _⟩
  have HR : Hid (Below w.heap.size w w2) := Lib.hid h2
  have HGW := Lib.hid g2
  have gx := HG2.out
  have c0 := gx.cell 0
  have c1 := gx.cell 1
  have c2 := gx.cell 2
  have c3 := gx.cell 3
  have c4 := gx.cell 4
  have c5 := gx.cell 5
  have c6 := gx.cell 6
  have c7 := gx.cell 7
  have c8 := gx.cell 8
  have c9 := gx.cell 9
  have c10 := gx.cell 10
  simp at c0 c1 c2 c3 c4 c5 c6 c7 c8 c9 c10
  clear gx g2 h2 HG HB
  go_wp2_with fail
  refine (join_any _ [V] 1 w _ HM.out rfl (by decide) HLEN.out (by decide)).mono ?_
  rintro y w5 ⟨rfl, hb5⟩
  have h5 := sub_trans HM.out.below hb5
  rw [← HFIN.out]
  go_wp2
  exact bodyPost_ret (v := .tuple #[.string (lineB x), .int .i64 0]) (by simp [results, Tryz.results21, go_sem]; try rfl) rfl ⟨rfl, h5⟩
theorem ltext_4 (x : Cl) (w : World) (hT : Pow w) (hk : x.k = 4) (hx : x.ok) (hs : x.id.size ≤ maxLen) :
    Calls Tryz.prog 21 #[x.val] w fun y w' => y = .returned (.tuple #[.string (lineB x), .int .i64 0]) ∧ Below w.heap.size w w' := by
  have HV := Lib.hid (fun W => verb_any 4 W)
  have HN := Lib.hid (fun W => named_any 4 W)
  have HI := Lib.hid (fun W => idcheck_any x.id hs W)
  obtain ⟨_, i2, i3, i4, i6, _⟩ := hx
  have HV : Hid (∀ W, Calls Tryz.prog 37 #[.int .i64 4] W fun x w' => x = .returned (.string (vbB 4)) ∧ Below W.heap.size W w') := HV
  have HN : Hid (∀ W, Calls Tryz.prog 39 #[.int .i64 4] W fun x w' => x = .returned (.bool false) ∧ W = w') := HN
  have hv1 := vb_ne 4 (by decide) (by decide)
  have hv2 : ((vbB 4).toList = []) = False := by
    rw [eq_iff_iff]
    constructor
    · intro e
      rw [e] at hv1
      cases hv1
    · exact False.elim
  have hfin : joinS 32 ([vbB 4, decB x.handle].map (·.data.toList)) = joinS 32 (lineWs x) := by
    simp [lineWs, hk, vbB_list, decB_list]
  have hl3 := itoa_l i4
  have hlen : (joinS 32 ([vbB 4, decB x.handle].map (·.data.toList))).length ≤ 100000 := by
    have hlv := vbS_len 4
    simp [joinS, vbB_list, decB_list, polB_list] at *
    try omega
  have HFIN : Hid (lineB x = ⟨(joinS 32 ([vbB 4, decB x.handle].map (·.data.toList))).toArray⟩) := Lib.hid (by unfold lineB; rw [hfin])
  have HLEN := Lib.hid hlen
  clear hfin hlen hl3
  have HD3 := Lib.hid (fun W hP => number_any x.handle i4 W hP)
  generalize decB x.handle = D3 at *
  generalize vbB 4 = V at *
  have HB := Lib.hid (fun o => sub_alloc (Below.refl _ w) o)
  have HT := Lib.hid hT
  have HG := Lib.hid (Blk.new_at w 50 x.arr (g := w.heap.size) rfl)
  clear hT 
  unfold Cl.val Cl.arr at *
  rw [hk] at *
  clear hk
  have c0 := HG.out.cell 0
  have c1 := HG.out.cell 1
  simp at c0 c1
  go_enter Tryz.func21, Tryz.ntmps21
  go_wp2_with fail
  refine (HV.out _).mono ?_
  rintro y w1 ⟨rfl, hb⟩
  have h1 := sub_trans (HB.out _) hb
  have g1 := HG.out.later hb
  have c0 := g1.cell 0
  have c1 := g1.cell 1
  simp at c0 c1
  clear hb
  go_wp2_with fail
  refine (HI.out _).mono ?_
  rintro y w2 ⟨rfl, hb⟩
  have h2 := sub_trans h1 hb
  have g2 := g1.later hb
  have c0 := g2.cell 0
  simp at c0
  clear hb h1 g1
  go_wp2_with fail
  refine (HN.out _).mono ?_
  rintro y w3 ⟨rfl, rfl⟩
  have HG2 := Lib.hid (g2.alloc (.cells #[.string V] 9))
  have HM : Hid (MineS 1 w (w2.alloc (.cells #[.string V] 9)) 9 (.slice (some ⟨w2.heap.size, 0, none⟩) 1 1) 1 (strs [V])) := Lib.hid ⟨own_of_blk (n := 1) (s := 1) (Blk.new_at w2 9 #[.string V] (g := w2.heap.size) rfl) h2.size rfl (by simp [maxLen]), sub_alloc h2 _⟩
  have HR : Hid (Below w.heap.size w w2) := Lib.hid h2
  have HGW := Lib.hid g2
  have gx := HG2.out
  have c0 := gx.cell 0
  have c1 := gx.cell 1
  have c2 := gx.cell 2
  have c3 := gx.cell 3
  have c4 := gx.cell 4
  have c5 := gx.cell 5
  have c6 := gx.cell 6
  have c7 := gx.cell 7
  have c8 := gx.cell 8
  have c9 := gx.cell 9
  have c10 := gx.cell 10
  simp at c0 c1 c2 c3 c4 c5 c6 c7 c8 c9 c10
  clear gx g2 h2 HG HB
  go_wp2_with fail
  refine (HD3.out _ (pow_up HT.out HM.out.below)).mono ?_
  rintro y v0 ⟨rfl, hb⟩
  have hm := HM.out.later hb
  clear hb
  go_wp2_with (at_builtin; go_must (refine wpList_append_manyG (cs := #[.string D3]) elemS (by decide) rfl (.tmp 50) (.tmp 54) rfl rfl hm.own hm.le (by simp) rfl rfl (by simp [Value.oneCell']) (by omega) (by unfold maxLen; omega) ?_); intro v' w' hm' hg')
  have hmz := hm.app hg' hm'
  have e9 : strs [V] ++ (#[.string D3] : Array Value).toList = strs [V, D3] := rfl
  rw [e9] at hmz
  clear hm hg' hm' e9
  go_wp2_with fail
  refine (join_any _ [V, D3] 2 w _ hmz rfl (by decide) HLEN.out (by decide)).mono ?_
  rintro y w5 ⟨rfl, hb5⟩
  have h5 := sub_trans hmz.below hb5
  rw [← HFIN.out]
  go_wp2
  exact bodyPost_ret (v := .tuple #[.string (lineB x), .int .i64 0]) (by simp [results, Tryz.results21, go_sem]; try rfl) rfl ⟨rfl, h5⟩
theorem ltext_5 (x : Cl) (w : World) (hT : Pow w) (hk : x.k = 5) (hx : x.ok) (hi : idOk x.id = true) :
    Calls Tryz.prog 21 #[x.val] w fun y w' => y = .returned (.tuple #[.string (lineB x), .int .i64 0]) ∧ Below w.heap.size w w' := by
  have HV := Lib.hid (fun W => verb_any 5 W)
  have HN := Lib.hid (fun W => named_any 5 W)
  have HI := Lib.hid (fun W => idcheck_any x.id hx.idm W)
  rw [idE_yes hi] at HI
  obtain ⟨_, i2, i3, i4, i6, _⟩ := hx
  have HV : Hid (∀ W, Calls Tryz.prog 37 #[.int .i64 5] W fun x w' => x = .returned (.string (vbB 5)) ∧ Below W.heap.size W w') := HV
  have HN : Hid (∀ W, Calls Tryz.prog 39 #[.int .i64 5] W fun x w' => x = .returned (.bool true) ∧ W = w') := HN
  have hv1 := vb_ne 5 (by decide) (by decide)
  have hv2 : ((vbB 5).toList = []) = False := by
    rw [eq_iff_iff]
    constructor
    · intro e
      rw [e] at hv1
      cases hv1
    · exact False.elim
  have hfin : joinS 32 ([vbB 5, decB x.handle, x.id, decB x.tick, decB x.value].map (·.data.toList)) = joinS 32 (lineWs x) := by
    simp [lineWs, hk, vbB_list, decB_list]
  have hl0 : x.id.data.toList.length ≤ 20 := by have := (idOk_at hi).2.1; simpa using this
  have hl1 := itoa_l i2
  have hl2 := itoa_l i3
  have hl3 := itoa_l i4
  have hlen : (joinS 32 ([vbB 5, decB x.handle, x.id, decB x.tick, decB x.value].map (·.data.toList))).length ≤ 100000 := by
    have hlv := vbS_len 5
    simp [joinS, vbB_list, decB_list, polB_list] at *
    try omega
  have HFIN : Hid (lineB x = ⟨(joinS 32 ([vbB 5, decB x.handle, x.id, decB x.tick, decB x.value].map (·.data.toList))).toArray⟩) := Lib.hid (by unfold lineB; rw [hfin])
  have HLEN := Lib.hid hlen
  clear hfin hlen hl0 hl1 hl2 hl3
  have HD1 := Lib.hid (fun W hP => number_any x.tick i2 W hP)
  generalize decB x.tick = D1 at *
  have HD2 := Lib.hid (fun W hP => number_any x.value i3 W hP)
  generalize decB x.value = D2 at *
  have HD3 := Lib.hid (fun W hP => number_any x.handle i4 W hP)
  generalize decB x.handle = D3 at *
  generalize vbB 5 = V at *
  have HB := Lib.hid (fun o => sub_alloc (Below.refl _ w) o)
  have HT := Lib.hid hT
  have HG := Lib.hid (Blk.new_at w 50 x.arr (g := w.heap.size) rfl)
  clear hT hi
  unfold Cl.val Cl.arr at *
  rw [hk] at *
  clear hk
  have c0 := HG.out.cell 0
  have c1 := HG.out.cell 1
  simp at c0 c1
  go_enter Tryz.func21, Tryz.ntmps21
  go_wp2_with fail
  refine (HV.out _).mono ?_
  rintro y w1 ⟨rfl, hb⟩
  have h1 := sub_trans (HB.out _) hb
  have g1 := HG.out.later hb
  have c0 := g1.cell 0
  have c1 := g1.cell 1
  simp at c0 c1
  clear hb
  go_wp2_with fail
  refine (HI.out _).mono ?_
  rintro y w2 ⟨rfl, hb⟩
  have h2 := sub_trans h1 hb
  have g2 := g1.later hb
  have c0 := g2.cell 0
  simp at c0
  clear hb h1 g1
  go_wp2_with fail
  refine (HN.out _).mono ?_
  rintro y w3 ⟨rfl, rfl⟩
  have HG2 := Lib.hid (g2.alloc (.cells #[.string V] 9))
  have HM : Hid (MineS 1 w (w2.alloc (.cells #[.string V] 9)) 9 (.slice (some ⟨w2.heap.size, 0, none⟩) 1 1) 1 (strs [V])) := Lib.hid ⟨own_of_blk (n := 1) (s := 1) (Blk.new_at w2 9 #[.string V] (g := w2.heap.size) rfl) h2.size rfl (by simp [maxLen]), sub_alloc h2 _⟩
  have HR : Hid (Below w.heap.size w w2) := Lib.hid h2
  have HGW := Lib.hid g2
  have gx := HG2.out
  have c0 := gx.cell 0
  have c1 := gx.cell 1
  have c2 := gx.cell 2
  have c3 := gx.cell 3
  have c4 := gx.cell 4
  have c5 := gx.cell 5
  have c6 := gx.cell 6
  have c7 := gx.cell 7
  have c8 := gx.cell 8
  have c9 := gx.cell 9
  have c10 := gx.cell 10
  simp at c0 c1 c2 c3 c4 c5 c6 c7 c8 c9 c10
  clear gx g2 h2 HG HB
  go_wp2
  obtain ⟨WB, hWB⟩ : ∃ WB, w2.alloc (.cells #[.string V] 9) = WB := ⟨_, rfl⟩
  rw [hWB] at HM HG2 ⊢
  have hT0 : Below w2.heap.size w2 WB.drew := by rw [← hWB]; exact (sub_alloc (Below.refl _ _) _).drew
  simp only [hWB] at c0 c1 c2 c3 c4 c5 c6 c7 c8 c9 c10
  clear c0 c1 c2 c3 c4 c5 c6 c7 c8 c9 c10 hWB
  have hS0 : Below WB.heap.size WB WB.drew := (Below.refl _ _).drew
  refine any_start (S := fun W => Below w2.heap.size w2 W) (by kernel_rfl) hT0 ?_
  generalize WB.drew = WD at *
  simp only [List.length_cons, List.length_nil, Nat.reduceAdd, List.size_toArray]
  refine any_pure 0 (v := ?_) rfl (by kernel_rfl) (by intro _ _ _ h; exact h) (by assumption) (by rfl) (fun W hW => ?_) ?_
  rotate_left
  · first | (go_simp; done) | (go_simp; with_reducible rfl)
  try simp only [Act.put, List.setIfInBounds_toArray, List.set_cons_zero, List.set_cons_succ]
  refine any_pure 1 (v := ?_) rfl (by kernel_rfl) (by intro _ _ _ h; exact h) (by assumption) (by rfl) (fun W hW => ?_) ?_
  rotate_left
  · first | (go_simp; done) | (go_simp; with_reducible rfl)
  try simp only [Act.put, List.setIfInBounds_toArray, List.set_cons_zero, List.set_cons_succ]
  refine any_pure 2 (v := ?_) rfl (by kernel_rfl) (by intro _ _ _ h; exact h) (by assumption) (by rfl) (fun W hW => ?_) ?_
  rotate_left
  · have c4 := (HGW.out.later hW).cell 4; simp at c4; first | (go_simp; done) | (go_simp; with_reducible rfl)
  try simp only [Act.put, List.setIfInBounds_toArray, List.set_cons_zero, List.set_cons_succ]
  refine any_pure 4 (v := ?_) rfl (by kernel_rfl) (by intro _ _ _ h; exact h) (by assumption) (by rfl) (fun W hW => ?_) ?_
  rotate_left
  · first | (go_simp; done) | (go_simp; with_reducible rfl)
  try simp only [Act.put, List.setIfInBounds_toArray, List.set_cons_zero, List.set_cons_succ]
  refine any_pure 5 (v := ?_) rfl (by kernel_rfl) (by intro _ _ _ h; exact h) (by assumption) (by rfl) (fun W hW => ?_) ?_
  rotate_left
  · have c1 := (HGW.out.later hW).cell 1; simp at c1; first | (go_simp; done) | (go_simp; with_reducible rfl)
  try simp only [Act.put, List.setIfInBounds_toArray, List.set_cons_zero, List.set_cons_succ]
  refine any_pure 6 (v := ?_) rfl (by kernel_rfl) (by intro _ _ _ h; exact h) (by assumption) (by rfl) (fun W hW => ?_) ?_
  rotate_left
  · first | (go_simp; done) | (go_simp; with_reducible rfl)
  try simp only [Act.put, List.setIfInBounds_toArray, List.set_cons_zero, List.set_cons_succ]
  refine any_pure 7 (v := ?_) rfl (by kernel_rfl) (by intro _ _ _ h; exact h) (by assumption) (by rfl) (fun W hW => ?_) ?_
  rotate_left
  · have c2 := (HGW.out.later hW).cell 2; simp at c2; first | (go_simp; done) | (go_simp; with_reducible rfl)
  try simp only [Act.put, List.setIfInBounds_toArray, List.set_cons_zero, List.set_cons_succ]
  refine any_pure 9 (v := ?_) rfl (by kernel_rfl) (by intro _ _ _ h; exact h) (by assumption) (by rfl) (fun W hW => ?_) ?_
  rotate_left
  · first | (go_simp; done) | (go_simp; with_reducible rfl)
  try simp only [Act.put, List.setIfInBounds_toArray, List.set_cons_zero, List.set_cons_succ]
  refine any_pure 10 (v := ?_) rfl (by kernel_rfl) (by intro _ _ _ h; exact h) (by assumption) (by rfl) (fun W hW => ?_) ?_
  rotate_left
  · have c3 := (HGW.out.later hW).cell 3; simp at c3; first | (go_simp; done) | (go_simp; with_reducible rfl)
  try simp only [Act.put, List.setIfInBounds_toArray, List.set_cons_zero, List.set_cons_succ]
  refine any_one 3 (by kernel_rfl) rfl (by rfl) (fun K hK => ?_)
  go_simp
  refine (HD3.out _ (pow_up HT.out (sub_trans HM.out.below hS0))).mono ?_
  rintro y v0 ⟨rfl, hb⟩
  have hS1 := sub_trans hS0 hb
  have hT1 := sub_trans hT0 hb
  refine hK _ _ hT1 ?_
  clear hK hb
  try simp only [Act.put, List.setIfInBounds_toArray, List.set_cons_zero, List.set_cons_succ]
  refine any_one 8 (by kernel_rfl) rfl (by rfl) (fun K hK => ?_)
  go_simp
  refine (HD1.out _ (pow_up HT.out (sub_trans HM.out.below hS1))).mono ?_
  rintro y v1 ⟨rfl, hb⟩
  have hS2 := sub_trans hS1 hb
  have hT2 := sub_trans hT1 hb
  refine hK _ _ hT2 ?_
  clear hK hb
  try simp only [Act.put, List.setIfInBounds_toArray, List.set_cons_zero, List.set_cons_succ]
  refine any_one 11 (by kernel_rfl) rfl (by rfl) (fun K hK => ?_)
  go_simp
  refine (HD2.out _ (pow_up HT.out (sub_trans HM.out.below hS2))).mono ?_
  rintro y v2 ⟨rfl, hb⟩
  have hS3 := sub_trans hS2 hb
  have hT3 := sub_trans hT2 hb
  refine hK _ _ hT3 ?_
  clear hK hb
  try simp only [Act.put, List.setIfInBounds_toArray, List.set_cons_zero, List.set_cons_succ]
  refine any_one 12 (by kernel_rfl) rfl (by rfl) (fun K hK => ?_)
  go_simp
  have hm := HM.out.later hS3
  have hlow : w2.heap.size ≤ v2.heap.size := hT3.size
  refine hK _ _ (sub_alloc hT3 _) ?_
  clear hK
  try simp only [Act.put, List.setIfInBounds_toArray, List.set_cons_zero, List.set_cons_succ]
  refine any_one 13 (by kernel_rfl) rfl (by rfl) (fun K hK => ?_)
  refine wp_append_manyG (cs := #[.string D3, .string x.id, .string D1, .string D2]) elemS (by decide) (.tmp 58) (.tmp 70) rfl rfl hm.own hm.le rfl rfl rfl (by simp [Value.oneCell']) (by omega) (by unfold maxLen; omega) ?_
  intro v' w' hm' hg'
  have hT9 : Below w2.heap.size w2 w' := hT3.grown hg' hlow (fun g9 e9 => by have e8 : some w2.heap.size = some g9 := e9; injection e8 with e8; omega)
  refine hK _ _ hT9 ?_
  clear hK
  try simp only [Act.put, List.setIfInBounds_toArray, List.set_cons_zero, List.set_cons_succ]
  refine any_pure 14 (v := ?_) rfl (by kernel_rfl) (by intro _ _ _ h; exact h) (by assumption) (by rfl) (fun W hW => ?_) ?_
  rotate_left
  · first | (go_simp; done) | (go_simp; with_reducible rfl)
  try simp only [Act.put, List.setIfInBounds_toArray, List.set_cons_zero, List.set_cons_succ]
  refine any_done (by kernel_rfl) ?_
  have hmz := hm.app hg' hm'
  have e9 : strs [V] ++ (#[.string D3, .string x.id, .string D1, .string D2] : Array Value).toList = strs [V, D3, x.id, D1, D2] := rfl
  rw [e9] at hmz
  clear hm hg' hm' e9
  go_wp2_with fail
  refine (join_any _ [V, D3, x.id, D1, D2] 5 w _ hmz rfl (by decide) HLEN.out (by decide)).mono ?_
  rintro y w5 ⟨rfl, hb5⟩
  have h5 := sub_trans hmz.below hb5
  rw [← HFIN.out]
  go_wp2
  exact bodyPost_ret (v := .tuple #[.string (lineB x), .int .i64 0]) (by simp [results, Tryz.results21, go_sem]; try rfl) rfl ⟨rfl, h5⟩
theorem ltext_6 (x : Cl) (w : World) (hT : Pow w) (hk : x.k = 6) (hx : x.ok) (hi : idOk x.id = true) :
    Calls Tryz.prog 21 #[x.val] w fun y w' => y = .returned (.tuple #[.string (lineB x), .int .i64 0]) ∧ Below w.heap.size w w' := by
  have HV := Lib.hid (fun W => verb_any 6 W)
  have HN := Lib.hid (fun W => named_any 6 W)
  have HI := Lib.hid (fun W => idcheck_any x.id hx.idm W)
  rw [idE_yes hi] at HI
  obtain ⟨_, i2, i3, i4, i6, _⟩ := hx
  have HV : Hid (∀ W, Calls Tryz.prog 37 #[.int .i64 6] W fun x w' => x = .returned (.string (vbB 6)) ∧ Below W.heap.size W w') := HV
  have HN : Hid (∀ W, Calls Tryz.prog 39 #[.int .i64 6] W fun x w' => x = .returned (.bool true) ∧ W = w') := HN
  have hv1 := vb_ne 6 (by decide) (by decide)
  have hv2 : ((vbB 6).toList = []) = False := by
    rw [eq_iff_iff]
    constructor
    · intro e
      rw [e] at hv1
      cases hv1
    · exact False.elim
  have hfin : joinS 32 ([vbB 6, x.id, polB x.a x.b x.c x.d x.e x.f].map (·.data.toList)) = joinS 32 (lineWs x) := by
    simp [lineWs, hk, vbB_list, decB_list, polB_list, joinS, polT, joinS_flat 32 (polWords x.a x.b x.c x.d x.e x.f) (by simp [polWords])]
    try (rw [joinS_flat 32 (polWords x.a x.b x.c x.d x.e x.f) (by simp [polWords])]; rfl)
  have hl0 : x.id.data.toList.length ≤ 20 := by have := (idOk_at hi).2.1; simpa using this
  have hl4 : (polT x.a x.b x.c x.d x.e x.f).length ≤ 300 := by have := polB_size i6; rw [← polB_list]; exact this
  have hlen : (joinS 32 ([vbB 6, x.id, polB x.a x.b x.c x.d x.e x.f].map (·.data.toList))).length ≤ 100000 := by
    have hlv := vbS_len 6
    simp [joinS, vbB_list, decB_list, polB_list] at *
    try omega
  have HFIN : Hid (lineB x = ⟨(joinS 32 ([vbB 6, x.id, polB x.a x.b x.c x.d x.e x.f].map (·.data.toList))).toArray⟩) := Lib.hid (by unfold lineB; rw [hfin])
  have HLEN := Lib.hid hlen
  clear hfin hlen hl0 hl4
  have HD4 := Lib.hid (fun W hP => poltext_any x.a x.b x.c x.d x.e x.f i6 W hP)
  generalize polB x.a x.b x.c x.d x.e x.f = D4 at *
  generalize vbB 6 = V at *
  have HB := Lib.hid (fun o => sub_alloc (Below.refl _ w) o)
  have HT := Lib.hid hT
  have HG := Lib.hid (Blk.new_at w 50 x.arr (g := w.heap.size) rfl)
  clear hT hi
  unfold Cl.val Cl.arr at *
  rw [hk] at *
  clear hk
  have c0 := HG.out.cell 0
  have c1 := HG.out.cell 1
  simp at c0 c1
  go_enter Tryz.func21, Tryz.ntmps21
  go_wp2_with fail
  refine (HV.out _).mono ?_
  rintro y w1 ⟨rfl, hb⟩
  have h1 := sub_trans (HB.out _) hb
  have g1 := HG.out.later hb
  have c0 := g1.cell 0
  have c1 := g1.cell 1
  simp at c0 c1
  clear hb
  go_wp2_with fail
  refine (HI.out _).mono ?_
  rintro y w2 ⟨rfl, hb⟩
  have h2 := sub_trans h1 hb
  have g2 := g1.later hb
  have c0 := g2.cell 0
  simp at c0
  clear hb h1 g1
  go_wp2_with fail
  refine (HN.out _).mono ?_
  rintro y w3 ⟨rfl, rfl⟩
  have HG2 := Lib.hid (g2.alloc (.cells #[.string V] 9))
  have HM : Hid (MineS 1 w (w2.alloc (.cells #[.string V] 9)) 9 (.slice (some ⟨w2.heap.size, 0, none⟩) 1 1) 1 (strs [V])) := Lib.hid ⟨own_of_blk (n := 1) (s := 1) (Blk.new_at w2 9 #[.string V] (g := w2.heap.size) rfl) h2.size rfl (by simp [maxLen]), sub_alloc h2 _⟩
  have HR : Hid (Below w.heap.size w w2) := Lib.hid h2
  have HGW := Lib.hid g2
  have gx := HG2.out
  have c0 := gx.cell 0
  have c1 := gx.cell 1
  have c2 := gx.cell 2
  have c3 := gx.cell 3
  have c4 := gx.cell 4
  have c5 := gx.cell 5
  have c6 := gx.cell 6
  have c7 := gx.cell 7
  have c8 := gx.cell 8
  have c9 := gx.cell 9
  have c10 := gx.cell 10
  simp at c0 c1 c2 c3 c4 c5 c6 c7 c8 c9 c10
  clear gx g2 h2 HG HB
  go_wp2
  obtain ⟨WB, hWB⟩ : ∃ WB, w2.alloc (.cells #[.string V] 9) = WB := ⟨_, rfl⟩
  rw [hWB] at HM HG2 ⊢
  have hT0 : Below w2.heap.size w2 WB.drew := by rw [← hWB]; exact (sub_alloc (Below.refl _ _) _).drew
  simp only [hWB] at c0 c1 c2 c3 c4 c5 c6 c7 c8 c9 c10
  clear c0 c1 c2 c3 c4 c5 c6 c7 c8 c9 c10 hWB
  have hS0 : Below WB.heap.size WB WB.drew := (Below.refl _ _).drew
  refine any_start (S := fun W => Below w2.heap.size w2 W) (by kernel_rfl) hT0 ?_
  generalize WB.drew = WD at *
  simp only [List.length_cons, List.length_nil, Nat.reduceAdd, List.size_toArray]
  refine any_pure 0 (v := ?_) rfl (by kernel_rfl) (by intro _ _ _ h; exact h) (by assumption) (by rfl) (fun W hW => ?_) ?_
  rotate_left
  · first | (go_simp; done) | (go_simp; with_reducible rfl)
  try simp only [Act.put, List.setIfInBounds_toArray, List.set_cons_zero, List.set_cons_succ]
  refine any_pure 1 (v := ?_) rfl (by kernel_rfl) (by intro _ _ _ h; exact h) (by assumption) (by rfl) (fun W hW => ?_) ?_
  rotate_left
  · first | (go_simp; done) | (go_simp; with_reducible rfl)
  try simp only [Act.put, List.setIfInBounds_toArray, List.set_cons_zero, List.set_cons_succ]
  refine any_pure 2 (v := ?_) rfl (by kernel_rfl) (by intro _ _ _ h; exact h) (by assumption) (by rfl) (fun W hW => ?_) ?_
  rotate_left
  · have c1 := (HGW.out.later hW).cell 1; simp at c1; first | (go_simp; done) | (go_simp; with_reducible rfl)
  try simp only [Act.put, List.setIfInBounds_toArray, List.set_cons_zero, List.set_cons_succ]
  refine any_pure 3 (v := ?_) rfl (by kernel_rfl) (by intro _ _ _ h; exact h) (by assumption) (by rfl) (fun W hW => ?_) ?_
  rotate_left
  · first | (go_simp; done) | (go_simp; with_reducible rfl)
  try simp only [Act.put, List.setIfInBounds_toArray, List.set_cons_zero, List.set_cons_succ]
  refine any_pure 4 (v := ?_) rfl (by kernel_rfl) (by intro _ _ _ h; exact h) (by assumption) (by rfl) (fun W hW => ?_) ?_
  rotate_left
  · have c5 := (HGW.out.later hW).cell 5; have c6 := (HGW.out.later hW).cell 6; have c7 := (HGW.out.later hW).cell 7; have c8 := (HGW.out.later hW).cell 8; have c9 := (HGW.out.later hW).cell 9; have c10 := (HGW.out.later hW).cell 10; simp at c5 c6 c7 c8 c9 c10; first | (go_simp; done) | (go_simp; with_reducible rfl)
  try simp only [Act.put, List.setIfInBounds_toArray, List.set_cons_zero, List.set_cons_succ]
  refine any_one 5 (by kernel_rfl) rfl (by rfl) (fun K hK => ?_)
  go_simp
  refine (HD4.out _ (pow_up HT.out (sub_trans HM.out.below hS0))).mono ?_
  rintro y v0 ⟨rfl, hb⟩
  have hS1 := sub_trans hS0 hb
  have hT1 := sub_trans hT0 hb
  refine hK _ _ hT1 ?_
  clear hK hb
  try simp only [Act.put, List.setIfInBounds_toArray, List.set_cons_zero, List.set_cons_succ]
  refine any_one 6 (by kernel_rfl) rfl (by rfl) (fun K hK => ?_)
  go_simp
  have hm := HM.out.later hS1
  have hlow : w2.heap.size ≤ v0.heap.size := hT1.size
  refine hK _ _ (sub_alloc hT1 _) ?_
  clear hK
  try simp only [Act.put, List.setIfInBounds_toArray, List.set_cons_zero, List.set_cons_succ]
  refine any_one 7 (by kernel_rfl) rfl (by rfl) (fun K hK => ?_)
  refine wp_append_manyG (cs := #[.string x.id, .string D4]) elemS (by decide) (.tmp 74) (.tmp 80) rfl rfl hm.own hm.le rfl rfl rfl (by simp [Value.oneCell']) (by omega) (by unfold maxLen; omega) ?_
  intro v' w' hm' hg'
  have hT9 : Below w2.heap.size w2 w' := hT1.grown hg' hlow (fun g9 e9 => by have e8 : some w2.heap.size = some g9 := e9; injection e8 with e8; omega)
  refine hK _ _ hT9 ?_
  clear hK
  try simp only [Act.put, List.setIfInBounds_toArray, List.set_cons_zero, List.set_cons_succ]
  refine any_pure 8 (v := ?_) rfl (by kernel_rfl) (by intro _ _ _ h; exact h) (by assumption) (by rfl) (fun W hW => ?_) ?_
  rotate_left
  · first | (go_simp; done) | (go_simp; with_reducible rfl)
  try simp only [Act.put, List.setIfInBounds_toArray, List.set_cons_zero, List.set_cons_succ]
  refine any_done (by kernel_rfl) ?_
  have hmz := hm.app hg' hm'
  have e9 : strs [V] ++ (#[.string x.id, .string D4] : Array Value).toList = strs [V, x.id, D4] := rfl
  rw [e9] at hmz
  clear hm hg' hm' e9
  go_wp2_with fail
  refine (join_any _ [V, x.id, D4] 3 w _ hmz rfl (by decide) HLEN.out (by decide)).mono ?_
  rintro y w5 ⟨rfl, hb5⟩
  have h5 := sub_trans hmz.below hb5
  rw [← HFIN.out]
  go_wp2
  exact bodyPost_ret (v := .tuple #[.string (lineB x), .int .i64 0]) (by simp [results, Tryz.results21, go_sem]; try rfl) rfl ⟨rfl, h5⟩
theorem ltext_7 (x : Cl) (w : World) (hT : Pow w) (hk : x.k = 7) (hx : x.ok) (hi : idOk x.id = true) :
    Calls Tryz.prog 21 #[x.val] w fun y w' => y = .returned (.tuple #[.string (lineB x), .int .i64 0]) ∧ Below w.heap.size w w' := by
  have HV := Lib.hid (fun W => verb_any 7 W)
  have HN := Lib.hid (fun W => named_any 7 W)
  have HI := Lib.hid (fun W => idcheck_any x.id hx.idm W)
  rw [idE_yes hi] at HI
  obtain ⟨_, i2, i3, i4, i6, _⟩ := hx
  have HV : Hid (∀ W, Calls Tryz.prog 37 #[.int .i64 7] W fun x w' => x = .returned (.string (vbB 7)) ∧ Below W.heap.size W w') := HV
  have HN : Hid (∀ W, Calls Tryz.prog 39 #[.int .i64 7] W fun x w' => x = .returned (.bool true) ∧ W = w') := HN
  have hv1 := vb_ne 7 (by decide) (by decide)
  have hv2 : ((vbB 7).toList = []) = False := by
    rw [eq_iff_iff]
    constructor
    · intro e
      rw [e] at hv1
      cases hv1
    · exact False.elim
  have hfin : joinS 32 ([vbB 7, x.id].map (·.data.toList)) = joinS 32 (lineWs x) := by
    simp [lineWs, hk, vbB_list, decB_list]
  have hl0 : x.id.data.toList.length ≤ 20 := by have := (idOk_at hi).2.1; simpa using this
  have hlen : (joinS 32 ([vbB 7, x.id].map (·.data.toList))).length ≤ 100000 := by
    have hlv := vbS_len 7
    simp [joinS, vbB_list, decB_list, polB_list] at *
    try omega
  have HFIN : Hid (lineB x = ⟨(joinS 32 ([vbB 7, x.id].map (·.data.toList))).toArray⟩) := Lib.hid (by unfold lineB; rw [hfin])
  have HLEN := Lib.hid hlen
  clear hfin hlen hl0
  generalize vbB 7 = V at *
  have HB := Lib.hid (fun o => sub_alloc (Below.refl _ w) o)
  have HT := Lib.hid hT
  have HG := Lib.hid (Blk.new_at w 50 x.arr (g := w.heap.size) rfl)
  clear hT hi
  unfold Cl.val Cl.arr at *
  rw [hk] at *
  clear hk
  have c0 := HG.out.cell 0
  have c1 := HG.out.cell 1
  simp at c0 c1
  go_enter Tryz.func21, Tryz.ntmps21
  go_wp2_with fail
  refine (HV.out _).mono ?_
  rintro y w1 ⟨rfl, hb⟩
  have h1 := sub_trans (HB.out _) hb
  have g1 := HG.out.later hb
  have c0 := g1.cell 0
  have c1 := g1.cell 1
  simp at c0 c1
  clear hb
  go_wp2_with fail
  refine (HI.out _).mono ?_
  rintro y w2 ⟨rfl, hb⟩
  have h2 := sub_trans h1 hb
  have g2 := g1.later hb
  have c0 := g2.cell 0
  simp at c0
  clear hb h1 g1
  go_wp2_with fail
  refine (HN.out _).mono ?_
  rintro y w3 ⟨rfl, rfl⟩
  have HG2 := Lib.hid (g2.alloc (.cells #[.string V] 9))
  have HM : Hid (MineS 1 w (w2.alloc (.cells #[.string V] 9)) 9 (.slice (some ⟨w2.heap.size, 0, none⟩) 1 1) 1 (strs [V])) := Lib.hid ⟨own_of_blk (n := 1) (s := 1) (Blk.new_at w2 9 #[.string V] (g := w2.heap.size) rfl) h2.size rfl (by simp [maxLen]), sub_alloc h2 _⟩
  have HR : Hid (Below w.heap.size w w2) := Lib.hid h2
  have HGW := Lib.hid g2
  have gx := HG2.out
  have c0 := gx.cell 0
  have c1 := gx.cell 1
  have c2 := gx.cell 2
  have c3 := gx.cell 3
  have c4 := gx.cell 4
  have c5 := gx.cell 5
  have c6 := gx.cell 6
  have c7 := gx.cell 7
  have c8 := gx.cell 8
  have c9 := gx.cell 9
  have c10 := gx.cell 10
  simp at c0 c1 c2 c3 c4 c5 c6 c7 c8 c9 c10
  clear gx g2 h2 HG HB
  have hm := HM.out
  go_wp2_with (at_builtin; go_must (refine wpList_append_manyG (cs := #[.string x.id]) elemS (by decide) rfl (.tmp 84) (.tmp 87) rfl rfl hm.own hm.le (by simp) rfl rfl (by simp [Value.oneCell']) (by omega) (by unfold maxLen; omega) ?_); intro v' w' hm' hg')
  have hmz := hm.app hg' hm'
  have e9 : strs [V] ++ (#[.string x.id] : Array Value).toList = strs [V, x.id] := rfl
  rw [e9] at hmz
  clear hm hg' hm' e9
  go_wp2_with fail
  refine (join_any _ [V, x.id] 2 w _ hmz rfl (by decide) HLEN.out (by decide)).mono ?_
  rintro y w5 ⟨rfl, hb5⟩
  have h5 := sub_trans hmz.below hb5
  rw [← HFIN.out]
  go_wp2
  exact bodyPost_ret (v := .tuple #[.string (lineB x), .int .i64 0]) (by simp [results, Tryz.results21, go_sem]; try rfl) rfl ⟨rfl, h5⟩
theorem ltext_8 (x : Cl) (w : World) (hT : Pow w) (hk : x.k = 8) (hx : x.ok) (hs : x.id.size ≤ maxLen) :
    Calls Tryz.prog 21 #[x.val] w fun y w' => y = .returned (.tuple #[.string (lineB x), .int .i64 0]) ∧ Below w.heap.size w w' := by
  have HV := Lib.hid (fun W => verb_any 8 W)
  have HN := Lib.hid (fun W => named_any 8 W)
  have HI := Lib.hid (fun W => idcheck_any x.id hs W)
  obtain ⟨_, i2, i3, i4, i6, _⟩ := hx
  have HV : Hid (∀ W, Calls Tryz.prog 37 #[.int .i64 8] W fun x w' => x = .returned (.string (vbB 8)) ∧ Below W.heap.size W w') := HV
  have HN : Hid (∀ W, Calls Tryz.prog 39 #[.int .i64 8] W fun x w' => x = .returned (.bool false) ∧ W = w') := HN
  have hv1 := vb_ne 8 (by decide) (by decide)
  have hv2 : ((vbB 8).toList = []) = False := by
    rw [eq_iff_iff]
    constructor
    · intro e
      rw [e] at hv1
      cases hv1
    · exact False.elim
  have hfin : joinS 32 ([vbB 8].map (·.data.toList)) = joinS 32 (lineWs x) := by
    simp [lineWs, hk, vbB_list, decB_list]
  have hlen : (joinS 32 ([vbB 8].map (·.data.toList))).length ≤ 100000 := by
    have hlv := vbS_len 8
    simp [joinS, vbB_list, decB_list, polB_list] at *
    try omega
  have HFIN : Hid (lineB x = ⟨(joinS 32 ([vbB 8].map (·.data.toList))).toArray⟩) := Lib.hid (by unfold lineB; rw [hfin])
  have HLEN := Lib.hid hlen
  clear hfin hlen
  generalize vbB 8 = V at *
  have HB := Lib.hid (fun o => sub_alloc (Below.refl _ w) o)
  have HT := Lib.hid hT
  have HG := Lib.hid (Blk.new_at w 50 x.arr (g := w.heap.size) rfl)
  clear hT 
  unfold Cl.val Cl.arr at *
  rw [hk] at *
  clear hk
  have c0 := HG.out.cell 0
  have c1 := HG.out.cell 1
  simp at c0 c1
  go_enter Tryz.func21, Tryz.ntmps21
  go_wp2_with fail
  refine (HV.out _).mono ?_
  rintro y w1 ⟨rfl, hb⟩
  have h1 := sub_trans (HB.out _) hb
  have g1 := HG.out.later hb
  have c0 := g1.cell 0
  have c1 := g1.cell 1
  simp at c0 c1
  clear hb
  go_wp2_with fail
  refine (HI.out _).mono ?_
  rintro y w2 ⟨rfl, hb⟩
  have h2 := sub_trans h1 hb
  have g2 := g1.later hb
  have c0 := g2.cell 0
  simp at c0
  clear hb h1 g1
  go_wp2_with fail
  refine (HN.out _).mono ?_
  rintro y w3 ⟨rfl, rfl⟩
  have HG2 := Lib.hid (g2.alloc (.cells #[.string V] 9))
  have HM : Hid (MineS 1 w (w2.alloc (.cells #[.string V] 9)) 9 (.slice (some ⟨w2.heap.size, 0, none⟩) 1 1) 1 (strs [V])) := Lib.hid ⟨own_of_blk (n := 1) (s := 1) (Blk.new_at w2 9 #[.string V] (g := w2.heap.size) rfl) h2.size rfl (by simp [maxLen]), sub_alloc h2 _⟩
  have HR : Hid (Below w.heap.size w w2) := Lib.hid h2
  have HGW := Lib.hid g2
  have gx := HG2.out
  have c0 := gx.cell 0
  have c1 := gx.cell 1
  have c2 := gx.cell 2
  have c3 := gx.cell 3
  have c4 := gx.cell 4
  have c5 := gx.cell 5
  have c6 := gx.cell 6
  have c7 := gx.cell 7
  have c8 := gx.cell 8
  have c9 := gx.cell 9
  have c10 := gx.cell 10
  simp at c0 c1 c2 c3 c4 c5 c6 c7 c8 c9 c10
  clear gx g2 h2 HG HB
  go_wp2_with fail
  refine (join_any _ [V] 1 w _ HM.out rfl (by decide) HLEN.out (by decide)).mono ?_
  rintro y w5 ⟨rfl, hb5⟩
  have h5 := sub_trans HM.out.below hb5
  rw [← HFIN.out]
  go_wp2
  exact bodyPost_ret (v := .tuple #[.string (lineB x), .int .i64 0]) (by simp [results, Tryz.results21, go_sem]; try rfl) rfl ⟨rfl, h5⟩
theorem ltext_any (x : Cl) (w : World) (hT : Pow w) (hx : x.ok) :
    Calls Tryz.prog 21 #[x.val] w fun y w' => y = .returned (.tuple #[.string (textB x), .int .i64 (textE x)]) ∧ Below w.heap.size w w' := by
  by_cases h : x.k < 1 ∨ 8 < x.k
  · have e : textE x = 14 := by unfold textE; rw [if_pos h]
    have e2 : textB x = ByteArray.empty := by unfold textB; rw [e]; rfl
    rw [e, e2]
    exact ltext_bad x w h
  by_cases h2 : namedK x.k = true ∧ idOk x.id = false
  · have e : textE x = 2 := by unfold textE; rw [if_neg h, if_pos h2]
    have e2 : textB x = ByteArray.empty := by unfold textB; rw [e]; rfl
    rw [e, e2]
    exact ltext_id x x.k.toNat w (by omega) (by omega) (by omega) h2.1 h2.2 hx.idm
  have e : textE x = 0 := by unfold textE; rw [if_neg h, if_neg h2]
  have e2 : textB x = lineB x := by unfold textB; rw [if_pos e]
  have hn : namedK x.k = true → idOk x.id = true := fun h => named_ok e h
  have hk := kind_of e
  rw [e, e2]
  rcases hk with hk | hk | hk | hk | hk | hk | hk | hk
  · exact ltext_1 x w hT hk hx (hn (by rw [hk]; rfl))
  · exact ltext_2 x w hT hk hx hx.idm
  · exact ltext_3 x w hT hk hx hx.idm
  · exact ltext_4 x w hT hk hx hx.idm
  · exact ltext_5 x w hT hk hx (hn (by rw [hk]; rfl))
  · exact ltext_6 x w hT hk hx (hn (by rw [hk]; rfl))
  · exact ltext_7 x w hT hk hx (hn (by rw [hk]; rfl))
  · exact ltext_8 x w hT hk hx hx.idm
end Go.Proofs.YteljecehppeamaaGreatDoor
