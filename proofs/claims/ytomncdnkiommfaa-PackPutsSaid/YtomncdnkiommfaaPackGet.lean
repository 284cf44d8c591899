/-
  The walk of pack.Get: bytes read as samples. Conditions: at most 100000 bytes.
-/
import Derived.Test.YtomncdnkiommfaaPackPut2
namespace Go.Fw
open Go.RowKit
theorem MineS.lower {s : Nat} {w w1 w2 : World} {e : TypeId} {v : Value} {n : Nat} {xs : List Value} (h : MineS s w1 w2 e v n xs) (hb : Below w.heap.size w w1) : MineS s w w2 e v n xs := ⟨own_lower h.own hb.size, sub_trans hb h.below⟩
theorem MineS.set_ {s : Nat} {w0 w : World} {e : TypeId} {v : Value} {n : Nat} {xs : List Value} (h : MineS s w0 w e v n xs) {p : Addr} (hp : w0.heap.size ≤ p.block) (hne : v.ownBlock ≠ some p.block) (u : Value) : MineS s w0 (w.setCell p u) e v n xs := by
  refine ⟨h.own.kept (row := some p.block) ⟨rfl, rfl, rfl, by simp [World.setCell], fun k _ hk => Below.heap_setCell w p u k (fun e => hk (by rw [e]))⟩ (.inr hne), h.below.setCell hp u⟩
theorem own_set {w : World} {B : Nat} {e : TypeId} {s n : Nat} {v : Value} {xs : List Value} (h : w.ownsRow B e s v n xs) {p : Addr} (hne : v.ownBlock ≠ some p.block) (u : Value) : (w.setCell p u).ownsRow B e s v n xs :=
  h.kept (row := some p.block) ⟨rfl, rfl, rfl, by simp [World.setCell], fun k _ hk => Below.heap_setCell w p u k (fun e => hk (by rw [e]))⟩ (.inr hne)
theorem own_later {w w' : World} {B : Nat} {e : TypeId} {s n : Nat} {v : Value} {xs : List Value} (h : w.ownsRow B e s v n xs) (hb : Below w.heap.size w w') : w'.ownsRow B e s v n xs := by
  refine h.kept (row := none) ⟨hb.os, hb.tape, hb.output, hb.size, fun k hk _ => hb.block k hk⟩ ?_
  cases v.ownBlock <;> simp
theorem own_far {w : World} {B g : Nat} {e : TypeId} {s n : Nat} {v : Value} {xs : List Value} (h : w.ownsRow B e s v n xs) (hg : g < B) : v.ownBlock ≠ some g := fun hk => by have := (h.lt _ hk).1; omega
theorem wpList_append_oneO {P : Program} {s : Nat} {w : World} {ops : Array Oper} {rest : List Oper} {o : Oper} {a : Act} {Q : Exit → Act → World → Prop} {t e e' : TypeId} {z : Value} {bytes : Nat} (hT : ElemS P t e z s bytes) (hs0 : 0 < s)
    (hgd : o.guard = none) (sl x : Operand) (ho : o.op = .call { callee := .builtin .append, args := #[sl, x], argTypes := #[t, t] })
    {v : Value} {n B : Nat} {xs : List Value} (hs : a.eval sl = v) (hm : w.ownsRow B e s v n xs) (hB : B ≤ w.heap.size) {cs : Array Value} (hx : a.eval x = .slice (some ⟨w.heap.size, 0, none⟩) 1 1) (hcs : cs.size = s) (h1 : ∀ u ∈ cs.toList, u.oneCell' = true)
    (hlen : (n + 1) * bytes ≤ 140737488355328) (hle : n + 1 ≤ maxLen)
    (h : ∀ v' w', w'.ownsRow B e s v' (n + 1) (xs ++ cs.toList) → w.grownBy w' v.ownBlock → wpList P ops Q rest (a.put o.dst v') w') :
    wpList P ops Q (o :: rest) a (w.alloc (.cells cs e')) := by
  obtain ⟨i, hi, hz, hsz, hby⟩ := info_parts hT.info
  refine wpList_append_own (w.alloc (.cells cs e')) hgd sl x t ho B e i z s bytes hT.under hi hz hsz hby hT.cells hs0 v n xs hs (hm.alloc _) ⟨w.heap.size, 0, none⟩ 1 1 cs.toList hx (by simpa using hcs)
    (fun j u hu => ?_) h1 hle hlen (by simp; omega) fun v' w' h2 h3 _ => ?_
  · rw [show (⟨w.heap.size, 0, none⟩ : Addr).add j = ⟨w.heap.size, j, none⟩ by unfold Addr.add; split <;> simp_all]
    rw [World.cell?_alloc_mark]
    simpa using hu
  · have hg : w.grownBy w' v.ownBlock := ⟨h3.os, h3.tape, h3.output, Nat.le_trans (by simp) h3.size, fun k hk hne => (h3.block k (by simp; omega) hne).trans (Below.heap_alloc w _ k hk)⟩
    exact h v' w' h2 hg
theorem MineS.alloc {s : Nat} {w0 w : World} {e : TypeId} {v : Value} {n : Nat} {xs : List Value} (h : MineS s w0 w e v n xs) (o : Obj) : MineS s w0 (w.alloc o) e v n xs := ⟨h.own.alloc o, sub_alloc h.below o⟩
theorem quiet_l {P : Program} {f : FuncId} {args : Array Value} {w : World} {n : Nat} {v : Value}
    (h : Calls P f args (w.drewN n) fun e w' => e = .returned v ∧ w.drewN n = w') : Calls P f args (w.drewN n) fun e w'' => e = .returned v ∧ ∃ m, w'' = w.drewN m :=
  h.mono fun _ _ ⟨he, hm⟩ => ⟨he, n, hm.symm⟩
theorem wrap_eq (x : Int) : IntKind.i64.wrap x = wrap64 x := by rw [IntKind.wrap_i64]; unfold wrap64; rfl
theorem wrapw {x b : Int} {r : Bool} (h : (wrap64 x != b) = r) : (IntKind.i64.wrap x != b) = r := by rw [wrap_eq]; exact h
theorem wrapw2 {x b : Int} {r : Bool} (h : (wrap64 (wrap64 x - 1) != b) = r) : (IntKind.i64.wrap (IntKind.i64.wrap x - 1) != b) = r := by rw [wrap_eq, wrap_eq]; exact h
end Go.Fw
namespace Go.Proofs.Ytomncdnkiommfaa
open Go.RowKit Go.Fw
set_option maxHeartbeats 1000000
set_option maxRecDepth 8000
set_option linter.unusedVariables false
set_option linter.unusedSimpArgs false

theorem elemSmp : ElemS Try.prog 44 57 (.agg #[.int .i64 0, .int .i64 0]) 2 16 := ⟨Try.underlying44, by kernel_rfl, rfl⟩

theorem pget_any (l : List UInt8) (A : Option Addr) (c n : Nat) (w : World) (hr : Reads w w.heap.size 1 A n (bys l)) (hl : n ≤ 100000) (hcc : n ≤ c) :
    Calls Try.prog 22 #[.slice A n c] w fun e w' => ∃ v, e = .returned (.tuple #[v, .int .i64 (getS l).2]) ∧ MineS 2 w w' 57 v (getS l).1.length (smps (getS l).1) := by
  have hcode : (readL l).2 = 0 ∨ (readL l).2 = 1 ∨ (readL l).2 = 2 := by
    rcases readF_get l.length l [] _ _ (Nat.le_refl _) rfl with ⟨h, _⟩ | ⟨_, h⟩
    · exact .inl h
    · exact .inr h
  have hres := readF_get l.length l [] (readL l).1 (readL l).2 (Nat.le_refl _) rfl
  have HG : Hid (getS l = if (readL l).2 = 0 then smpN (readL l).1 else ([], perr (readL l).2)) := Lib.hid rfl
  have hln : n = l.length := by have := hr.len; rwa [bys_length] at this
  rcases hrd : readL l with ⟨ns, ec⟩
  rw [hrd] at hcode hres HG
  simp only at hcode hres
  have HRD := Lib.hid hrd
  have HRES := Lib.hid hres
  have HG2 := Lib.hid HG.out
  clear hrd hres HG
  by_cases h0 : ec = 0
  · subst h0
    have hsm : Small ns := by
      rcases HRES.out with ⟨_, _, h3, _⟩ | ⟨rfl, h⟩
      · exact small_of fun x hx => by rcases h3 x hx with h | h; simp at h; exact h
      · omega
    have hnl : ns.length ≤ 100000 := by
      rcases HRES.out with ⟨_, _, _, h4⟩ | ⟨rfl, h⟩
      · simp at h4; omega
      · omega
    have hp0 : (perr 0 != 0) = false := by decide
    have hg : getS l = smpN ns := by rw [HG2.out, if_pos rfl]
    clear HRES HG2 hln
    rcases ns with _ | ⟨n0, r⟩
    · have HF := Lib.hid (show getS l = ([], 10) from hg)
      clear hg
      go_enter Try.func22, Try.ntmps22
      go_wp2_with fail
      refine (all_at l n hl A c hcc _ hr).mono ?_
      rintro e w1 ⟨v1, rfl, hm1⟩
      rw [HRD.out] at hm1 ⊢
      obtain ⟨A1, c1, rfl, _, _, hq1⟩ := hm1.form
      go_wp2
      go_ret2
      exact ⟨_, by rw [HF.out]; rfl, by rw [HF.out]; exact MineS.nil_at 2 (by repeat (first | exact hm1.below | apply sub_drewN)) _⟩
    · obtain ⟨ns, hns⟩ : ∃ ns, ns = n0 :: r := ⟨_, rfl⟩
      have h0l : 0 < ns.length := by rw [hns]; simp
      have hn0 : ns[0] = n0 := by subst hns; rfl
      have hlr : ns.length = r.length + 1 := by rw [hns]; simp
      have hdr : ns.drop 1 = r := by rw [hns]; rfl
      have hb0 := hsm 0 (by simp)
      simp only [List.getElem_cons_zero] at hb0
      rw [← hns] at hsm hnl HRD hg
      have hg' : getS l = if n0 < 0 ∨ 256 < n0 ∨ (r.length : Int) + 1 ≠ 1 + 2 * n0 then ([], 10) else decA (-1) 0 r [] := by rw [hg, hns]; rfl
      clear hns hg
      by_cases hbad : n0 < 0 ∨ 256 < n0 ∨ (r.length : Int) + 1 ≠ 1 + 2 * n0
      · have HF : Hid (getS l = ([], 10)) := by show _ = _; rw [hg', if_pos hbad]
        clear hg'
        have hcase : n0 < 0 ∨ (¬ n0 < 0 ∧ 256 < n0) ∨ (¬ n0 < 0 ∧ ¬ 256 < n0 ∧ (((ns.length : Int) != 1 + 2 * n0) = true)) := by
          by_cases c1 : n0 < 0
          · exact .inl c1
          · by_cases c2 : 256 < n0
            · exact .inr (.inl ⟨c1, c2⟩)
            · exact .inr (.inr ⟨c1, c2, by simp; omega⟩)
        have hlen0 : ((ns.length : Int) == 0) = false := by rw [beq_eq_false_iff_ne]; omega
        clear hbad
        go_enter Try.func22, Try.ntmps22
        go_wp2_with fail
        refine (all_at l n hl A c hcc _ hr).mono ?_
        rintro e w1 ⟨v1, rfl, hm1⟩
        rw [HRD.out] at hm1 ⊢
        obtain ⟨A1, c1, rfl, _, _, hq1⟩ := hm1.form
        obtain ⟨ad, u, rfl, _, hx, hc⟩ := hq1.at_ (k := 0) (by rw [i64s_length]; exact h0l)
        obtain rfl := i64s_get hx h0l
        rw [hn0] at hc
        have hil : ((i64s ns).length : Int) = (ns.length : Int) := by rw [i64s_length]
        have hil2 : (0 : Int) < ((i64s ns).length : Int) := by omega
        have hil3 : (((i64s ns).length : Int) == 0) = false := by rw [hil]; exact hlen0
        have HB := hm1.below
        have hc' : w1.cell? ad = some (.int .i64 n0) := by simpa [Addr.add] using hc
        clear hx hm1 hq1 hc hlen0
        rcases hcase with c1 | ⟨c1, c2⟩ | ⟨c1, c2, c3⟩
        · clear hil
          go_wp2
          go_ret2
          exact ⟨_, by rw [HF.out]; rfl, by rw [HF.out]; exact MineS.nil_at 2 (by repeat (first | exact HB | apply sub_drewN)) _⟩
        · clear hil
          go_wp2
          go_ret2
          exact ⟨_, by rw [HF.out]; rfl, by rw [HF.out]; exact MineS.nil_at 2 (by repeat (first | exact HB | apply sub_drewN)) _⟩
        · rw [← hil] at c3
          clear hil
          go_wp2
          go_ret2
          exact ⟨_, by rw [HF.out]; rfl, by rw [HF.out]; exact MineS.nil_at 2 (by repeat (first | exact HB | apply sub_drewN)) _⟩
      · have hlen0 : ((ns.length : Int) == 0) = false := by rw [beq_eq_false_iff_ne]; omega
        have hg : getS l = decA (-1) 0 (ns.drop 1) [] := by rw [hg', if_neg hbad, hdr]
        have d1 : ¬ n0 < 0 := by omega
        have d2 : ¬ 256 < n0 := by omega
        have hil : ((i64s ns).length : Int) = (ns.length : Int) := by rw [i64s_length]
        have d3 : (((i64s ns).length : Int) != 1 + 2 * n0) = false := by rw [hil]; simp; omega
        have hil2 : (0 : Int) < ((i64s ns).length : Int) := by rw [hil]; omega
        have hil3 : (((i64s ns).length : Int) == 0) = false := by rw [hil]; exact hlen0
        obtain ⟨m, hm⟩ : ∃ m, (i64s ns).length = 2 * m + 1 := ⟨n0.toNat, by rw [i64s_length]; omega⟩
        have HM := Lib.hid hm
        have HG := Lib.hid hg
        clear hg' hg hbad hil hlen0 hm
        go_enter Try.func22, Try.ntmps22
        go_wp2_with fail
        refine (all_at l n hl A c hcc _ hr).mono ?_
        rintro e w1 ⟨v1, rfl, hm1⟩
        rw [HRD.out] at hm1 ⊢
        obtain ⟨A1, c1, rfl, _, _, hq1⟩ := hm1.form
        obtain ⟨ad, u, rfl, _, hx, hc⟩ := hq1.at_ (k := 0) (by rw [i64s_length]; exact h0l)
        obtain rfl := i64s_get hx h0l
        rw [hn0] at hc
        have HB := hm1.below
        have hc' : w1.cell? ad = some (.int .i64 n0) := by simpa [Addr.add] using hc
        clear hx hm1 hc
        go_wp2_with fail
        clear hc' d1 d2 d3 hil3
        go_loopw [6, 8] (fun v i wr => ∃ (k j : Nat) (t x : Int) (out : List Smp), j = 2 * k + 1 ∧ k ≤ m ∧ i = .int .i64 j ∧ wr.ownsRow (w1.heap.size + 1) 57 2 v k (smps out) ∧ Below w1.heap.size w1 wr ∧ Blk wr w1.heap.size 57 #[.int .i64 t, .int .i64 x] ∧ out.length = k ∧ -1 ≤ t ∧ t ≤ 9223372036854775807 ∧ 0 ≤ x ∧ x ≤ 9223372036854775807 ∧ Hid (getS l = decA t x (ns.drop j) out)) (fun _ i _ => 2 * m + 1 - (intOf i).toNat)
        case atStart => exact ⟨0, 1, -1, 0, [], by omega, by omega, rfl, World.ownsRow_nil _ _ _ 2, sub_alloc (Below.refl _ _) _, Blk.new_at _ _ _ rfl, rfl, by omega, by omega, by omega, by omega, HG⟩
        case round =>
          obtain ⟨k, j, t, x, out, hj, hkm, rfl, hm, hlw, hbk, hol, ht0, ht1, hx0, hx1, HD⟩ := hrel
          obtain ⟨vo, hvo⟩ : ∃ vo, vo = u6 := ⟨_, rfl⟩
          subst hvo
          have HJ := Lib.hid hj
          have HOL := Lib.hid hol
          have gg : w1.heap.size < wr.heap.size := hbk.lt
          have hN : (i64s ns).length = ns.length := i64s_length ns
          have hN2 := HM.out
          clear hol
          by_cases hlt : k < m
          · have e1 : j < ns.length := by omega
            have e2 : j + 1 < ns.length := by omega
            have hqr := hq1.up hlw
            obtain ⟨ad1, u1, hA1, hl1, hx1', hc1⟩ := hqr.at_ (k := j) (by omega)
            obtain ⟨ad2, u2, hA2, hl2, hx2', hc2⟩ := hqr.at_ (k := j + 1) (by omega)
            injection hA1 with hA1
            injection hA2 with hA2
            subst hA1
            subst hA2
            obtain rfl := i64s_get hx1' e1
            obtain rfl := i64s_get hx2' e2
            have hbad := decA_bad t x out e1 e2
            have hon := decA_on t x out e1 e2
            have ia := hsm j e1
            have ib := hsm (j + 1) e2
            generalize ns[j] = a at *
            generalize ns[j + 1] = b at *
            have it : In64 t := ⟨by omega, by omega⟩
            have ix : In64 x := ⟨by omega, by omega⟩
            have ia' : In64 a := ia
            have ib' : In64 b := ib
            have i1 : In64 1 := ⟨by omega, by omega⟩
            have is := sat_in (t + a)
            obtain ⟨dok, dno⟩ := dec_test t x a b ht0 ht1 hx0 hx1 ia' ib'
            have b0 := hbk.cell 0
            have b1 := hbk.cell 1
            have f0 := hbk.frozen 0
            have f1 := hbk.frozen 1
            simp at b0 b1
            have j1 : (j : Int) < ((i64s ns).length : Int) := by omega
            have j2 : (j : Int) + 1 < ((i64s ns).length : Int) := by omega
            have j3 : (j : Int) + 2 ≤ 200003 := by omega
            have j4 : k + 1 ≤ 100001 := by omega
            have hlb : wr.cell? (ad.add j) = some (.int .i64 a) := hc1
            have hlb1 := World.block_lt_of_cell? wr _ hc1
            have hlb2 := World.block_lt_of_cell? wr _ hc2
            clear hx1' hx2' hqr hl1 hl2 hlb hN hN2
            have hT : Hid (sat (sat (t + a) + 1) = sat (sat (t + a) + 1)) := Lib.hid rfl
            have HQ := Lib.hid (And.intro dok (And.intro dno (And.intro hbad hon)))
            have iT := sat_in (sat (t + a) + 1)
            have iV := sat_in (x + b)
            clear hbad hon dok dno ia ib hsm hj hkm hlt
            have HX := Lib.hid (And.intro ht0 (And.intro ht1 (And.intro hx0 hx1)))
            clear ht0 ht1 hx0 hx1
            go_wp2
            go_quiet ((first | (go_at_call 30; exact quiet_l (add_any _ _ _ (by assumption) (by assumption)))))
            go_wp2
            have hSr := Below.refl wr.heap.size wr
            have hS0 := (sub_drewN hSr nq).drew
            have hw1 : IntKind.i64.wrap ((j : Int) + 1) = (j : Int) + 1 := by rw [IntKind.wrap_i64]; omega
            have hw2 : (0 : Int) ≤ (j : Int) + 1 := by omega
            have hw3 : ((j : Int) + 1).toNat = j + 1 := by omega
            refine any_start (S := fun W => Below wr.heap.size wr W) (by kernel_rfl) hS0 ?_
            simp only [List.length_cons, List.length_nil, Nat.reduceAdd, List.size_toArray]
            refine any_pure 0 (v := ?_) rfl (by kernel_rfl) (by intro _ _ _ h; exact h) (by assumption) (by rfl) (fun W hW => ?_) ?_
            rotate_left
            · first | (go_simp; done) | (go_simp; with_reducible rfl)
            try simp only [Act.put, List.setIfInBounds_toArray, List.set_cons_zero, List.set_cons_succ]
            refine any_pure 1 (v := ?_) rfl (by kernel_rfl) (by intro _ _ _ h; exact h) (by assumption) (by rfl) (fun W hW => ?_) ?_
            rotate_left
            · first | (go_simp; done) | (go_simp; with_reducible rfl)
            try simp only [Act.put, List.setIfInBounds_toArray, List.set_cons_zero, List.set_cons_succ]
            refine any_pure 2 (v := ?_) rfl (by kernel_rfl) (by intro _ _ _ h; exact h) (by assumption) (by rfl) (fun W hW => ?_) ?_
            rotate_left
            · have hc := (Below.cell hW (p := ⟨w1.heap.size, 1, none⟩) gg).trans b1; first | (go_simp; done) | (go_simp; with_reducible rfl)
            try simp only [Act.put, List.setIfInBounds_toArray, List.set_cons_zero, List.set_cons_succ]
            refine any_pure 3 (v := ?_) rfl (by kernel_rfl) (by intro _ _ _ h; exact h) (by assumption) (by rfl) (fun W hW => ?_) ?_
            rotate_left
            · first | (go_simp; done) | (go_simp; with_reducible rfl)
            try simp only [Act.put, List.setIfInBounds_toArray, List.set_cons_zero, List.set_cons_succ]
            refine any_pure 4 (v := ?_) rfl (by kernel_rfl) (by intro _ _ _ h; exact h) (by assumption) (by rfl) (fun W hW => ?_) ?_
            rotate_left
            · first | (go_simp; done) | (go_simp; with_reducible rfl)
            try simp only [Act.put, List.setIfInBounds_toArray, List.set_cons_zero, List.set_cons_succ]
            refine any_pure 5 (v := ?_) rfl (by kernel_rfl) (by intro _ _ _ h; exact h) (by assumption) (by rfl) (fun W hW => ?_) ?_
            rotate_left
            · first | (go_simp; done) | (go_simp; with_reducible rfl)
            try simp only [Act.put, List.setIfInBounds_toArray, List.set_cons_zero, List.set_cons_succ]
            refine any_pure 6 (v := ?_) rfl (by kernel_rfl) (by intro _ _ _ h; exact h) (by assumption) (by rfl) (fun W hW => ?_) ?_
            rotate_left
            · first | (go_simp; done) | (go_simp; with_reducible rfl)
            try simp only [Act.put, List.setIfInBounds_toArray, List.set_cons_zero, List.set_cons_succ]
            refine any_pure 7 (v := ?_) rfl (by kernel_rfl) (by intro _ _ _ h; exact h) (by assumption) (by rfl) (fun W hW => ?_) ?_
            rotate_left
            · have hc : W.cell? { block := ad.block, off := ad.off + (j + 1) } = some (.int .i64 b) := (by have hc := (Below.cell hW hlb2).trans hc2; first | exact hc | (simpa [Addr.add] using hc)); first | (go_simp; done) | (go_simp; with_reducible rfl)
            try simp only [Act.put, List.setIfInBounds_toArray, List.set_cons_zero, List.set_cons_succ]
            refine any_call 8 30 #[.int .i64 x, .int .i64 b] (.int .i64 (sat (x + b))) rfl (by kernel_rfl) (by intro _ _ _ h; exact h) (by assumption) (by rfl) (fun _ => by go_simp) (fun W hW => ?_) ?_
            · exact add_any _ _ W (by assumption) (by assumption)
            try simp only [Act.put, List.setIfInBounds_toArray, List.set_cons_zero, List.set_cons_succ]
            refine any_pure 9 (v := ?_) rfl (by kernel_rfl) (by intro _ _ _ h; exact h) (by assumption) (by rfl) (fun W hW => ?_) ?_
            rotate_left
            · first | (go_simp; done) | (go_simp; with_reducible rfl)
            try simp only [Act.put, List.setIfInBounds_toArray, List.set_cons_zero, List.set_cons_succ]
            refine any_one 10 (by kernel_rfl) rfl (by rfl) (fun K hK => ?_)
            go_simp
            refine hK _ _ (sub_alloc hS0 _) ?_
            have hS1 : Below wr.heap.size wr ((wr.drewN (nq + 1)).alloc (.cells #[.int .i64 0, .int .i64 0] 57)) := sub_alloc (sub_drewN hSr _) _
            have hbw := Blk.new_at (wr.drewN (nq + 1)) 57 #[.int .i64 0, .int .i64 0] (g := wr.heap.size) rfl
            have n0' := hbw.cell 0
            have n1' := hbw.cell 1
            have z0 := hbw.frozen 0
            have z1 := hbw.frozen 1
            simp at n0' n1'
            clear hK
            try simp only [Act.put, List.setIfInBounds_toArray, List.set_cons_zero, List.set_cons_succ]
            refine any_one 11 (by kernel_rfl) rfl (by rfl) (fun K hK => ?_)
            go_simp
            have hS2 := (hS1.setCell (p := ⟨wr.heap.size, 0, none⟩) (Nat.le_refl _) (.int .i64 (sat (sat (t + a) + 1)))).setCell (p := ⟨wr.heap.size, 1, none⟩) (Nat.le_refl _) (.int .i64 (sat (x + b)))
            have hbx := (hbw.set_ 0 (.int .i64 (sat (sat (t + a) + 1)))).set_ 1 (.int .i64 (sat (x + b)))
            try simp only [z0, z1, Bool.false_eq_true, if_false]
            refine hK _ _ hS2 ?_
            clear hS1 hbw n0' n1' z0 z1 hK
            generalize World.setCell (World.setCell (World.alloc (wr.drewN (nq + 1)) _) _ _) _ _ = W2 at hS2 hbx ⊢
            try simp only [Act.put, List.setIfInBounds_toArray, List.set_cons_zero, List.set_cons_succ]
            refine any_done (by kernel_rfl) ?_
            have HB1 := (Below.cell hS2 hlb1).trans hc1
            have HB2' := (Below.cell hS2 hlb2).trans hc2
            have HB2 : W2.cell? { block := ad.block, off := ad.off + (j + 1) } = some (.int .i64 b) := (by first | exact HB2' | (simpa [Addr.add] using HB2'))
            clear HB2'
            have x0 := hbx.cell 0
            have x1 := hbx.cell 1
            have y0 := (hbk.later hS2).cell 0
            have y1 := (hbk.later hS2).cell 1
            simp at x0 x1 y0 y1
            clear hSr hS0 b0 b1 hc1 hc2 hlb1 hlb2 f0 f1
            generalize sat (sat (t + a) + 1) = T at *
            generalize sat (x + b) = V at *
            have HBW : Below w.heap.size w W2 := sub_trans (sub_trans HB hlw) hS2
            by_cases hgood : a < 0 ∨ 9223372036854775807 < t + a + 1 ∨ x + b < 0 ∨ 9223372036854775807 < x + b
            · obtain ⟨dok, dno, hbad, hon⟩ := HQ.out
              have hB := dno hgood
              have HF := Lib.hid (HD.out.trans (hbad hgood))
              clear dok dno hbad hon hgood HQ HD
              by_cases c1 : a < 0
              · clear hB
                have d1 : decide (a < 0) = true := by simp [c1]
                go_wp2
                refine any_start (S := fun W => ∀ p, W.cell? p = W2.cell? p) (by kernel_rfl) (fun _ => rfl) ?_
                have hS3 : ∀ p, W2.drew.cell? p = W2.cell? p := fun _ => rfl
                simp only [List.length_cons, List.length_nil, Nat.reduceAdd, List.size_toArray]
                refine any_pure 0 (v := ?_) rfl (by kernel_rfl) (by intro _ _ _ h; exact h) (by assumption) (by rfl) (fun W hW => ?_) ?_
                rotate_left
                · first | (go_simp; done) | (go_simp; with_reducible rfl)
                try simp only [Act.put, List.setIfInBounds_toArray, List.set_cons_zero, List.set_cons_succ]
                refine any_pure 1 (v := ?_) rfl (by kernel_rfl) (by intro _ _ _ h; exact h) (by assumption) (by rfl) (fun W hW => ?_) ?_
                rotate_left
                · first | (go_simp; done) | (go_simp; with_reducible rfl)
                try simp only [Act.put, List.setIfInBounds_toArray, List.set_cons_zero, List.set_cons_succ]
                refine any_pure 2 (v := ?_) rfl (by kernel_rfl) (by intro _ _ _ h; exact h) (by assumption) (by rfl) (fun W hW => ?_) ?_
                rotate_left
                · first | (go_simp; done) | (go_simp; with_reducible rfl)
                try simp only [Act.put, List.setIfInBounds_toArray, List.set_cons_zero, List.set_cons_succ]
                refine any_pure 3 (v := ?_) rfl (by kernel_rfl) (by intro _ _ _ h; exact h) (by assumption) (by rfl) (fun W hW => ?_) ?_
                rotate_left
                · first | (go_simp; done) | (go_simp; with_reducible rfl)
                try simp only [Act.put, List.setIfInBounds_toArray, List.set_cons_zero, List.set_cons_succ]
                refine any_pure 4 (v := ?_) rfl (by kernel_rfl) (by intro _ _ _ h; exact h) (by assumption) (by rfl) (fun W hW => ?_) ?_
                rotate_left
                · first | (go_simp; done) | (go_simp; with_reducible rfl)
                try simp only [Act.put, List.setIfInBounds_toArray, List.set_cons_zero, List.set_cons_succ]
                refine any_pure 5 (v := ?_) rfl (by kernel_rfl) (by intro _ _ _ h; exact h) (by assumption) (by rfl) (fun W hW => ?_) ?_
                rotate_left
                · first | (go_simp; done) | (go_simp; with_reducible rfl)
                try simp only [Act.put, List.setIfInBounds_toArray, List.set_cons_zero, List.set_cons_succ]
                refine any_skip 6 rfl (by kernel_rfl) (by intro _ _ _ h; exact h) (by assumption) (by rfl) ?_
                try simp only [Act.put, List.setIfInBounds_toArray, List.set_cons_zero, List.set_cons_succ]
                refine any_skip 7 rfl (by kernel_rfl) (by intro _ _ _ h; exact h) (by assumption) (by rfl) ?_
                try simp only [Act.put, List.setIfInBounds_toArray, List.set_cons_zero, List.set_cons_succ]
                refine any_skip 8 rfl (by kernel_rfl) (by intro _ _ _ h; exact h) (by assumption) (by rfl) ?_
                try simp only [Act.put, List.setIfInBounds_toArray, List.set_cons_zero, List.set_cons_succ]
                refine any_pure 9 (v := ?_) rfl (by kernel_rfl) (by intro _ _ _ h; exact h) (by assumption) (by rfl) (fun W hW => ?_) ?_
                rotate_left
                · first | (go_simp; done) | (go_simp; with_reducible rfl)
                try simp only [Act.put, List.setIfInBounds_toArray, List.set_cons_zero, List.set_cons_succ]
                refine any_pure 10 (v := ?_) rfl (by kernel_rfl) (by intro _ _ _ h; exact h) (by assumption) (by rfl) (fun W hW => ?_) ?_
                rotate_left
                · first | (go_simp; done) | (go_simp; with_reducible rfl)
                try simp only [Act.put, List.setIfInBounds_toArray, List.set_cons_zero, List.set_cons_succ]
                refine any_skip 11 rfl (by kernel_rfl) (by intro _ _ _ h; exact h) (by assumption) (by rfl) ?_
                try simp only [Act.put, List.setIfInBounds_toArray, List.set_cons_zero, List.set_cons_succ]
                refine any_skip 12 rfl (by kernel_rfl) (by intro _ _ _ h; exact h) (by assumption) (by rfl) ?_
                try simp only [Act.put, List.setIfInBounds_toArray, List.set_cons_zero, List.set_cons_succ]
                refine any_skip 13 rfl (by kernel_rfl) (by intro _ _ _ h; exact h) (by assumption) (by rfl) ?_
                try simp only [Act.put, List.setIfInBounds_toArray, List.set_cons_zero, List.set_cons_succ]
                refine any_skip 14 rfl (by kernel_rfl) (by intro _ _ _ h; exact h) (by assumption) (by rfl) ?_
                try simp only [Act.put, List.setIfInBounds_toArray, List.set_cons_zero, List.set_cons_succ]
                refine any_skip 15 rfl (by kernel_rfl) (by intro _ _ _ h; exact h) (by assumption) (by rfl) ?_
                try simp only [Act.put, List.setIfInBounds_toArray, List.set_cons_zero, List.set_cons_succ]
                refine any_skip 16 rfl (by kernel_rfl) (by intro _ _ _ h; exact h) (by assumption) (by rfl) ?_
                try simp only [Act.put, List.setIfInBounds_toArray, List.set_cons_zero, List.set_cons_succ]
                refine any_skip 17 rfl (by kernel_rfl) (by intro _ _ _ h; exact h) (by assumption) (by rfl) ?_
                try simp only [Act.put, List.setIfInBounds_toArray, List.set_cons_zero, List.set_cons_succ]
                refine any_skip 18 rfl (by kernel_rfl) (by intro _ _ _ h; exact h) (by assumption) (by rfl) ?_
                try simp only [Act.put, List.setIfInBounds_toArray, List.set_cons_zero, List.set_cons_succ]
                refine any_skip 19 rfl (by kernel_rfl) (by intro _ _ _ h; exact h) (by assumption) (by rfl) ?_
                try simp only [Act.put, List.setIfInBounds_toArray, List.set_cons_zero, List.set_cons_succ]
                refine any_skip 20 rfl (by kernel_rfl) (by intro _ _ _ h; exact h) (by assumption) (by rfl) ?_
                try simp only [Act.put, List.setIfInBounds_toArray, List.set_cons_zero, List.set_cons_succ]
                refine any_skip 21 rfl (by kernel_rfl) (by intro _ _ _ h; exact h) (by assumption) (by rfl) ?_
                try simp only [Act.put, List.setIfInBounds_toArray, List.set_cons_zero, List.set_cons_succ]
                refine any_pure 22 (v := ?_) rfl (by kernel_rfl) (by intro _ _ _ h; exact h) (by assumption) (by rfl) (fun W hW => ?_) ?_
                rotate_left
                · first | (go_simp; done) | (go_simp; with_reducible rfl)
                try simp only [Act.put, List.setIfInBounds_toArray, List.set_cons_zero, List.set_cons_succ]
                refine any_pure 23 (v := ?_) rfl (by kernel_rfl) (by intro _ _ _ h; exact h) (by assumption) (by rfl) (fun W hW => ?_) ?_
                rotate_left
                · first | (go_simp; done) | (go_simp; with_reducible rfl)
                try simp only [Act.put, List.setIfInBounds_toArray, List.set_cons_zero, List.set_cons_succ]
                refine any_skip 24 rfl (by kernel_rfl) (by intro _ _ _ h; exact h) (by assumption) (by rfl) ?_
                try simp only [Act.put, List.setIfInBounds_toArray, List.set_cons_zero, List.set_cons_succ]
                refine any_skip 25 rfl (by kernel_rfl) (by intro _ _ _ h; exact h) (by assumption) (by rfl) ?_
                try simp only [Act.put, List.setIfInBounds_toArray, List.set_cons_zero, List.set_cons_succ]
                refine any_skip 26 rfl (by kernel_rfl) (by intro _ _ _ h; exact h) (by assumption) (by rfl) ?_
                try simp only [Act.put, List.setIfInBounds_toArray, List.set_cons_zero, List.set_cons_succ]
                refine any_skip 27 rfl (by kernel_rfl) (by intro _ _ _ h; exact h) (by assumption) (by rfl) ?_
                try simp only [Act.put, List.setIfInBounds_toArray, List.set_cons_zero, List.set_cons_succ]
                refine any_skip 28 rfl (by kernel_rfl) (by intro _ _ _ h; exact h) (by assumption) (by rfl) ?_
                try simp only [Act.put, List.setIfInBounds_toArray, List.set_cons_zero, List.set_cons_succ]
                refine any_skip 29 rfl (by kernel_rfl) (by intro _ _ _ h; exact h) (by assumption) (by rfl) ?_
                try simp only [Act.put, List.setIfInBounds_toArray, List.set_cons_zero, List.set_cons_succ]
                refine any_skip 30 rfl (by kernel_rfl) (by intro _ _ _ h; exact h) (by assumption) (by rfl) ?_
                try simp only [Act.put, List.setIfInBounds_toArray, List.set_cons_zero, List.set_cons_succ]
                refine any_skip 31 rfl (by kernel_rfl) (by intro _ _ _ h; exact h) (by assumption) (by rfl) ?_
                try simp only [Act.put, List.setIfInBounds_toArray, List.set_cons_zero, List.set_cons_succ]
                refine any_skip 32 rfl (by kernel_rfl) (by intro _ _ _ h; exact h) (by assumption) (by rfl) ?_
                try simp only [Act.put, List.setIfInBounds_toArray, List.set_cons_zero, List.set_cons_succ]
                refine any_skip 33 rfl (by kernel_rfl) (by intro _ _ _ h; exact h) (by assumption) (by rfl) ?_
                try simp only [Act.put, List.setIfInBounds_toArray, List.set_cons_zero, List.set_cons_succ]
                refine any_skip 34 rfl (by kernel_rfl) (by intro _ _ _ h; exact h) (by assumption) (by rfl) ?_
                try simp only [Act.put, List.setIfInBounds_toArray, List.set_cons_zero, List.set_cons_succ]
                refine any_pure 35 (v := ?_) rfl (by kernel_rfl) (by intro _ _ _ h; exact h) (by assumption) (by rfl) (fun W hW => ?_) ?_
                rotate_left
                · first | (go_simp; done) | (go_simp; with_reducible rfl)
                try simp only [Act.put, List.setIfInBounds_toArray, List.set_cons_zero, List.set_cons_succ]
                refine any_done (by kernel_rfl) ?_
                go_wp2
                go_ret2
                exact ⟨_, by rw [HF.out]; rfl, by rw [HF.out]; exact MineS.nil_at 2 (by repeat (first | exact HBW | apply sub_drewN)) _⟩
              · by_cases c2 : V < 0
                · clear hB
                  have d1 : decide (a < 0) = false := by simp [c1]
                  have d2 : decide (V < 0) = true := by simp [c2]
                  go_wp2
                  refine any_start (S := fun W => ∀ p, W.cell? p = W2.cell? p) (by kernel_rfl) (fun _ => rfl) ?_
                  have hS3 : ∀ p, W2.drew.cell? p = W2.cell? p := fun _ => rfl
                  simp only [List.length_cons, List.length_nil, Nat.reduceAdd, List.size_toArray]
                  refine any_pure 0 (v := ?_) rfl (by kernel_rfl) (by intro _ _ _ h; exact h) (by assumption) (by rfl) (fun W hW => ?_) ?_
                  rotate_left
                  · first | (go_simp; done) | (go_simp; with_reducible rfl)
                  try simp only [Act.put, List.setIfInBounds_toArray, List.set_cons_zero, List.set_cons_succ]
                  refine any_pure 1 (v := ?_) rfl (by kernel_rfl) (by intro _ _ _ h; exact h) (by assumption) (by rfl) (fun W hW => ?_) ?_
                  rotate_left
                  · first | (go_simp; done) | (go_simp; with_reducible rfl)
                  try simp only [Act.put, List.setIfInBounds_toArray, List.set_cons_zero, List.set_cons_succ]
                  refine any_pure 2 (v := ?_) rfl (by kernel_rfl) (by intro _ _ _ h; exact h) (by assumption) (by rfl) (fun W hW => ?_) ?_
                  rotate_left
                  · first | (go_simp; done) | (go_simp; with_reducible rfl)
                  try simp only [Act.put, List.setIfInBounds_toArray, List.set_cons_zero, List.set_cons_succ]
                  refine any_pure 3 (v := ?_) rfl (by kernel_rfl) (by intro _ _ _ h; exact h) (by assumption) (by rfl) (fun W hW => ?_) ?_
                  rotate_left
                  · first | (go_simp; done) | (go_simp; with_reducible rfl)
                  try simp only [Act.put, List.setIfInBounds_toArray, List.set_cons_zero, List.set_cons_succ]
                  refine any_pure 4 (v := ?_) rfl (by kernel_rfl) (by intro _ _ _ h; exact h) (by assumption) (by rfl) (fun W hW => ?_) ?_
                  rotate_left
                  · first | (go_simp; done) | (go_simp; with_reducible rfl)
                  try simp only [Act.put, List.setIfInBounds_toArray, List.set_cons_zero, List.set_cons_succ]
                  refine any_pure 5 (v := ?_) rfl (by kernel_rfl) (by intro _ _ _ h; exact h) (by assumption) (by rfl) (fun W hW => ?_) ?_
                  rotate_left
                  · first | (go_simp; done) | (go_simp; with_reducible rfl)
                  try simp only [Act.put, List.setIfInBounds_toArray, List.set_cons_zero, List.set_cons_succ]
                  refine any_pure 6 (v := ?_) rfl (by kernel_rfl) (by intro _ _ _ h; exact h) (by assumption) (by rfl) (fun W hW => ?_) ?_
                  rotate_left
                  · first | (go_simp; done) | (go_simp; with_reducible rfl)
                  try simp only [Act.put, List.setIfInBounds_toArray, List.set_cons_zero, List.set_cons_succ]
                  refine any_pure 7 (v := ?_) rfl (by kernel_rfl) (by intro _ _ _ h; exact h) (by assumption) (by rfl) (fun W hW => ?_) ?_
                  rotate_left
                  · first | (go_simp; done) | (go_simp; with_reducible rfl)
                  try simp only [Act.put, List.setIfInBounds_toArray, List.set_cons_zero, List.set_cons_succ]
                  refine any_pure 8 (v := ?_) rfl (by kernel_rfl) (by intro _ _ _ h; exact h) (by assumption) (by rfl) (fun W hW => ?_) ?_
                  rotate_left
                  · first | (go_simp; done) | (go_simp; with_reducible rfl)
                  try simp only [Act.put, List.setIfInBounds_toArray, List.set_cons_zero, List.set_cons_succ]
                  refine any_pure 9 (v := ?_) rfl (by kernel_rfl) (by intro _ _ _ h; exact h) (by assumption) (by rfl) (fun W hW => ?_) ?_
                  rotate_left
                  · first | (go_simp; done) | (go_simp; with_reducible rfl)
                  try simp only [Act.put, List.setIfInBounds_toArray, List.set_cons_zero, List.set_cons_succ]
                  refine any_pure 10 (v := ?_) rfl (by kernel_rfl) (by intro _ _ _ h; exact h) (by assumption) (by rfl) (fun W hW => ?_) ?_
                  rotate_left
                  · first | (go_simp; done) | (go_simp; with_reducible rfl)
                  try simp only [Act.put, List.setIfInBounds_toArray, List.set_cons_zero, List.set_cons_succ]
                  refine any_skip 11 rfl (by kernel_rfl) (by intro _ _ _ h; exact h) (by assumption) (by rfl) ?_
                  try simp only [Act.put, List.setIfInBounds_toArray, List.set_cons_zero, List.set_cons_succ]
                  refine any_skip 12 rfl (by kernel_rfl) (by intro _ _ _ h; exact h) (by assumption) (by rfl) ?_
                  try simp only [Act.put, List.setIfInBounds_toArray, List.set_cons_zero, List.set_cons_succ]
                  refine any_skip 13 rfl (by kernel_rfl) (by intro _ _ _ h; exact h) (by assumption) (by rfl) ?_
                  try simp only [Act.put, List.setIfInBounds_toArray, List.set_cons_zero, List.set_cons_succ]
                  refine any_skip 14 rfl (by kernel_rfl) (by intro _ _ _ h; exact h) (by assumption) (by rfl) ?_
                  try simp only [Act.put, List.setIfInBounds_toArray, List.set_cons_zero, List.set_cons_succ]
                  refine any_skip 15 rfl (by kernel_rfl) (by intro _ _ _ h; exact h) (by assumption) (by rfl) ?_
                  try simp only [Act.put, List.setIfInBounds_toArray, List.set_cons_zero, List.set_cons_succ]
                  refine any_skip 16 rfl (by kernel_rfl) (by intro _ _ _ h; exact h) (by assumption) (by rfl) ?_
                  try simp only [Act.put, List.setIfInBounds_toArray, List.set_cons_zero, List.set_cons_succ]
                  refine any_skip 17 rfl (by kernel_rfl) (by intro _ _ _ h; exact h) (by assumption) (by rfl) ?_
                  try simp only [Act.put, List.setIfInBounds_toArray, List.set_cons_zero, List.set_cons_succ]
                  refine any_skip 18 rfl (by kernel_rfl) (by intro _ _ _ h; exact h) (by assumption) (by rfl) ?_
                  try simp only [Act.put, List.setIfInBounds_toArray, List.set_cons_zero, List.set_cons_succ]
                  refine any_skip 19 rfl (by kernel_rfl) (by intro _ _ _ h; exact h) (by assumption) (by rfl) ?_
                  try simp only [Act.put, List.setIfInBounds_toArray, List.set_cons_zero, List.set_cons_succ]
                  refine any_skip 20 rfl (by kernel_rfl) (by intro _ _ _ h; exact h) (by assumption) (by rfl) ?_
                  try simp only [Act.put, List.setIfInBounds_toArray, List.set_cons_zero, List.set_cons_succ]
                  refine any_skip 21 rfl (by kernel_rfl) (by intro _ _ _ h; exact h) (by assumption) (by rfl) ?_
                  try simp only [Act.put, List.setIfInBounds_toArray, List.set_cons_zero, List.set_cons_succ]
                  refine any_pure 22 (v := ?_) rfl (by kernel_rfl) (by intro _ _ _ h; exact h) (by assumption) (by rfl) (fun W hW => ?_) ?_
                  rotate_left
                  · first | (go_simp; done) | (go_simp; with_reducible rfl)
                  try simp only [Act.put, List.setIfInBounds_toArray, List.set_cons_zero, List.set_cons_succ]
                  refine any_pure 23 (v := ?_) rfl (by kernel_rfl) (by intro _ _ _ h; exact h) (by assumption) (by rfl) (fun W hW => ?_) ?_
                  rotate_left
                  · first | (go_simp; done) | (go_simp; with_reducible rfl)
                  try simp only [Act.put, List.setIfInBounds_toArray, List.set_cons_zero, List.set_cons_succ]
                  refine any_skip 24 rfl (by kernel_rfl) (by intro _ _ _ h; exact h) (by assumption) (by rfl) ?_
                  try simp only [Act.put, List.setIfInBounds_toArray, List.set_cons_zero, List.set_cons_succ]
                  refine any_skip 25 rfl (by kernel_rfl) (by intro _ _ _ h; exact h) (by assumption) (by rfl) ?_
                  try simp only [Act.put, List.setIfInBounds_toArray, List.set_cons_zero, List.set_cons_succ]
                  refine any_skip 26 rfl (by kernel_rfl) (by intro _ _ _ h; exact h) (by assumption) (by rfl) ?_
                  try simp only [Act.put, List.setIfInBounds_toArray, List.set_cons_zero, List.set_cons_succ]
                  refine any_skip 27 rfl (by kernel_rfl) (by intro _ _ _ h; exact h) (by assumption) (by rfl) ?_
                  try simp only [Act.put, List.setIfInBounds_toArray, List.set_cons_zero, List.set_cons_succ]
                  refine any_skip 28 rfl (by kernel_rfl) (by intro _ _ _ h; exact h) (by assumption) (by rfl) ?_
                  try simp only [Act.put, List.setIfInBounds_toArray, List.set_cons_zero, List.set_cons_succ]
                  refine any_skip 29 rfl (by kernel_rfl) (by intro _ _ _ h; exact h) (by assumption) (by rfl) ?_
                  try simp only [Act.put, List.setIfInBounds_toArray, List.set_cons_zero, List.set_cons_succ]
                  refine any_skip 30 rfl (by kernel_rfl) (by intro _ _ _ h; exact h) (by assumption) (by rfl) ?_
                  try simp only [Act.put, List.setIfInBounds_toArray, List.set_cons_zero, List.set_cons_succ]
                  refine any_skip 31 rfl (by kernel_rfl) (by intro _ _ _ h; exact h) (by assumption) (by rfl) ?_
                  try simp only [Act.put, List.setIfInBounds_toArray, List.set_cons_zero, List.set_cons_succ]
                  refine any_skip 32 rfl (by kernel_rfl) (by intro _ _ _ h; exact h) (by assumption) (by rfl) ?_
                  try simp only [Act.put, List.setIfInBounds_toArray, List.set_cons_zero, List.set_cons_succ]
                  refine any_skip 33 rfl (by kernel_rfl) (by intro _ _ _ h; exact h) (by assumption) (by rfl) ?_
                  try simp only [Act.put, List.setIfInBounds_toArray, List.set_cons_zero, List.set_cons_succ]
                  refine any_skip 34 rfl (by kernel_rfl) (by intro _ _ _ h; exact h) (by assumption) (by rfl) ?_
                  try simp only [Act.put, List.setIfInBounds_toArray, List.set_cons_zero, List.set_cons_succ]
                  refine any_pure 35 (v := ?_) rfl (by kernel_rfl) (by intro _ _ _ h; exact h) (by assumption) (by rfl) (fun W hW => ?_) ?_
                  rotate_left
                  · first | (go_simp; done) | (go_simp; with_reducible rfl)
                  try simp only [Act.put, List.setIfInBounds_toArray, List.set_cons_zero, List.set_cons_succ]
                  refine any_done (by kernel_rfl) ?_
                  go_wp2
                  go_ret2
                  exact ⟨_, by rw [HF.out]; rfl, by rw [HF.out]; exact MineS.nil_at 2 (by repeat (first | exact HBW | apply sub_drewN)) _⟩
                · by_cases c3 : (wrap64 (wrap64 (T - t) - 1) != a) = true
                  · clear hB
                    have k3 := wrapw2 c3
                    have d1 : decide (a < 0) = false := by simp [c1]
                    have d2 : decide (V < 0) = false := by simp [c2]
                    go_wp2
                    refine any_start (S := fun W => ∀ p, W.cell? p = W2.cell? p) (by kernel_rfl) (fun _ => rfl) ?_
                    have hS3 : ∀ p, W2.drew.cell? p = W2.cell? p := fun _ => rfl
                    simp only [List.length_cons, List.length_nil, Nat.reduceAdd, List.size_toArray]
                    refine any_pure 0 (v := ?_) rfl (by kernel_rfl) (by intro _ _ _ h; exact h) (by assumption) (by rfl) (fun W hW => ?_) ?_
                    rotate_left
                    · first | (go_simp; done) | (go_simp; with_reducible rfl)
                    try simp only [Act.put, List.setIfInBounds_toArray, List.set_cons_zero, List.set_cons_succ]
                    refine any_pure 1 (v := ?_) rfl (by kernel_rfl) (by intro _ _ _ h; exact h) (by assumption) (by rfl) (fun W hW => ?_) ?_
                    rotate_left
                    · first | (go_simp; done) | (go_simp; with_reducible rfl)
                    try simp only [Act.put, List.setIfInBounds_toArray, List.set_cons_zero, List.set_cons_succ]
                    refine any_pure 2 (v := ?_) rfl (by kernel_rfl) (by intro _ _ _ h; exact h) (by assumption) (by rfl) (fun W hW => ?_) ?_
                    rotate_left
                    · first | (go_simp; done) | (go_simp; with_reducible rfl)
                    try simp only [Act.put, List.setIfInBounds_toArray, List.set_cons_zero, List.set_cons_succ]
                    refine any_pure 3 (v := ?_) rfl (by kernel_rfl) (by intro _ _ _ h; exact h) (by assumption) (by rfl) (fun W hW => ?_) ?_
                    rotate_left
                    · first | (go_simp; done) | (go_simp; with_reducible rfl)
                    try simp only [Act.put, List.setIfInBounds_toArray, List.set_cons_zero, List.set_cons_succ]
                    refine any_pure 4 (v := ?_) rfl (by kernel_rfl) (by intro _ _ _ h; exact h) (by assumption) (by rfl) (fun W hW => ?_) ?_
                    rotate_left
                    · first | (go_simp; done) | (go_simp; with_reducible rfl)
                    try simp only [Act.put, List.setIfInBounds_toArray, List.set_cons_zero, List.set_cons_succ]
                    refine any_pure 5 (v := ?_) rfl (by kernel_rfl) (by intro _ _ _ h; exact h) (by assumption) (by rfl) (fun W hW => ?_) ?_
                    rotate_left
                    · first | (go_simp; done) | (go_simp; with_reducible rfl)
                    try simp only [Act.put, List.setIfInBounds_toArray, List.set_cons_zero, List.set_cons_succ]
                    refine any_pure 6 (v := ?_) rfl (by kernel_rfl) (by intro _ _ _ h; exact h) (by assumption) (by rfl) (fun W hW => ?_) ?_
                    rotate_left
                    · first | (go_simp; done) | (go_simp; with_reducible rfl)
                    try simp only [Act.put, List.setIfInBounds_toArray, List.set_cons_zero, List.set_cons_succ]
                    refine any_pure 7 (v := ?_) rfl (by kernel_rfl) (by intro _ _ _ h; exact h) (by assumption) (by rfl) (fun W hW => ?_) ?_
                    rotate_left
                    · first | (go_simp; done) | (go_simp; with_reducible rfl)
                    try simp only [Act.put, List.setIfInBounds_toArray, List.set_cons_zero, List.set_cons_succ]
                    refine any_pure 8 (v := ?_) rfl (by kernel_rfl) (by intro _ _ _ h; exact h) (by assumption) (by rfl) (fun W hW => ?_) ?_
                    rotate_left
                    · first | (go_simp; done) | (go_simp; with_reducible rfl)
                    try simp only [Act.put, List.setIfInBounds_toArray, List.set_cons_zero, List.set_cons_succ]
                    refine any_pure 9 (v := ?_) rfl (by kernel_rfl) (by intro _ _ _ h; exact h) (by assumption) (by rfl) (fun W hW => ?_) ?_
                    rotate_left
                    · first | (go_simp; done) | (go_simp; with_reducible rfl)
                    try simp only [Act.put, List.setIfInBounds_toArray, List.set_cons_zero, List.set_cons_succ]
                    refine any_pure 10 (v := ?_) rfl (by kernel_rfl) (by intro _ _ _ h; exact h) (by assumption) (by rfl) (fun W hW => ?_) ?_
                    rotate_left
                    · first | (go_simp; done) | (go_simp; with_reducible rfl)
                    try simp only [Act.put, List.setIfInBounds_toArray, List.set_cons_zero, List.set_cons_succ]
                    refine any_pure 11 (v := ?_) rfl (by kernel_rfl) (by intro _ _ _ h; exact h) (by assumption) (by rfl) (fun W hW => ?_) ?_
                    rotate_left
                    · first | (go_simp; done) | (go_simp; with_reducible rfl)
                    try simp only [Act.put, List.setIfInBounds_toArray, List.set_cons_zero, List.set_cons_succ]
                    refine any_pure 12 (v := ?_) rfl (by kernel_rfl) (by intro _ _ _ h; exact h) (by assumption) (by rfl) (fun W hW => ?_) ?_
                    rotate_left
                    · first | (go_simp; done) | (go_simp; with_reducible rfl)
                    try simp only [Act.put, List.setIfInBounds_toArray, List.set_cons_zero, List.set_cons_succ]
                    refine any_pure 13 (v := ?_) rfl (by kernel_rfl) (by intro _ _ _ h; exact h) (by assumption) (by rfl) (fun W hW => ?_) ?_
                    rotate_left
                    · first | (go_simp; done) | (go_simp; with_reducible rfl)
                    try simp only [Act.put, List.setIfInBounds_toArray, List.set_cons_zero, List.set_cons_succ]
                    refine any_pure 14 (v := ?_) rfl (by kernel_rfl) (by intro _ _ _ h; exact h) (by assumption) (by rfl) (fun W hW => ?_) ?_
                    rotate_left
                    · first | (go_simp; done) | (go_simp; with_reducible rfl)
                    try simp only [Act.put, List.setIfInBounds_toArray, List.set_cons_zero, List.set_cons_succ]
                    refine any_pure 15 (v := ?_) rfl (by kernel_rfl) (by intro _ _ _ h; exact h) (by assumption) (by rfl) (fun W hW => ?_) ?_
                    rotate_left
                    · first | (go_simp; done) | (go_simp; with_reducible rfl)
                    try simp only [Act.put, List.setIfInBounds_toArray, List.set_cons_zero, List.set_cons_succ]
                    refine any_pure 16 (v := ?_) rfl (by kernel_rfl) (by intro _ _ _ h; exact h) (by assumption) (by rfl) (fun W hW => ?_) ?_
                    rotate_left
                    · first | (go_simp; done) | (go_simp; with_reducible rfl)
                    try simp only [Act.put, List.setIfInBounds_toArray, List.set_cons_zero, List.set_cons_succ]
                    refine any_pure 17 (v := ?_) rfl (by kernel_rfl) (by intro _ _ _ h; exact h) (by assumption) (by rfl) (fun W hW => ?_) ?_
                    rotate_left
                    · first | (go_simp; done) | (go_simp; with_reducible rfl)
                    try simp only [Act.put, List.setIfInBounds_toArray, List.set_cons_zero, List.set_cons_succ]
                    refine any_pure 18 (v := ?_) rfl (by kernel_rfl) (by intro _ _ _ h; exact h) (by assumption) (by rfl) (fun W hW => ?_) ?_
                    rotate_left
                    · first | (go_simp; done) | (go_simp; with_reducible rfl)
                    try simp only [Act.put, List.setIfInBounds_toArray, List.set_cons_zero, List.set_cons_succ]
                    refine any_pure 19 (v := ?_) rfl (by kernel_rfl) (by intro _ _ _ h; exact h) (by assumption) (by rfl) (fun W hW => ?_) ?_
                    rotate_left
                    · first | (go_simp; done) | (go_simp; with_reducible rfl)
                    try simp only [Act.put, List.setIfInBounds_toArray, List.set_cons_zero, List.set_cons_succ]
                    refine any_pure 20 (v := ?_) rfl (by kernel_rfl) (by intro _ _ _ h; exact h) (by assumption) (by rfl) (fun W hW => ?_) ?_
                    rotate_left
                    · first | (go_simp; done) | (go_simp; with_reducible rfl)
                    try simp only [Act.put, List.setIfInBounds_toArray, List.set_cons_zero, List.set_cons_succ]
                    refine any_pure 21 (v := ?_) rfl (by kernel_rfl) (by intro _ _ _ h; exact h) (by assumption) (by rfl) (fun W hW => ?_) ?_
                    rotate_left
                    · first | (go_simp; done) | (go_simp; with_reducible rfl)
                    try simp only [Act.put, List.setIfInBounds_toArray, List.set_cons_zero, List.set_cons_succ]
                    refine any_pure 22 (v := ?_) rfl (by kernel_rfl) (by intro _ _ _ h; exact h) (by assumption) (by rfl) (fun W hW => ?_) ?_
                    rotate_left
                    · first | (go_simp; done) | (go_simp; with_reducible rfl)
                    try simp only [Act.put, List.setIfInBounds_toArray, List.set_cons_zero, List.set_cons_succ]
                    refine any_pure 23 (v := ?_) rfl (by kernel_rfl) (by intro _ _ _ h; exact h) (by assumption) (by rfl) (fun W hW => ?_) ?_
                    rotate_left
                    · first | (go_simp; done) | (go_simp; with_reducible rfl)
                    try simp only [Act.put, List.setIfInBounds_toArray, List.set_cons_zero, List.set_cons_succ]
                    refine any_skip 24 rfl (by kernel_rfl) (by intro _ _ _ h; exact h) (by assumption) (by rfl) ?_
                    try simp only [Act.put, List.setIfInBounds_toArray, List.set_cons_zero, List.set_cons_succ]
                    refine any_skip 25 rfl (by kernel_rfl) (by intro _ _ _ h; exact h) (by assumption) (by rfl) ?_
                    try simp only [Act.put, List.setIfInBounds_toArray, List.set_cons_zero, List.set_cons_succ]
                    refine any_skip 26 rfl (by kernel_rfl) (by intro _ _ _ h; exact h) (by assumption) (by rfl) ?_
                    try simp only [Act.put, List.setIfInBounds_toArray, List.set_cons_zero, List.set_cons_succ]
                    refine any_skip 27 rfl (by kernel_rfl) (by intro _ _ _ h; exact h) (by assumption) (by rfl) ?_
                    try simp only [Act.put, List.setIfInBounds_toArray, List.set_cons_zero, List.set_cons_succ]
                    refine any_skip 28 rfl (by kernel_rfl) (by intro _ _ _ h; exact h) (by assumption) (by rfl) ?_
                    try simp only [Act.put, List.setIfInBounds_toArray, List.set_cons_zero, List.set_cons_succ]
                    refine any_skip 29 rfl (by kernel_rfl) (by intro _ _ _ h; exact h) (by assumption) (by rfl) ?_
                    try simp only [Act.put, List.setIfInBounds_toArray, List.set_cons_zero, List.set_cons_succ]
                    refine any_skip 30 rfl (by kernel_rfl) (by intro _ _ _ h; exact h) (by assumption) (by rfl) ?_
                    try simp only [Act.put, List.setIfInBounds_toArray, List.set_cons_zero, List.set_cons_succ]
                    refine any_skip 31 rfl (by kernel_rfl) (by intro _ _ _ h; exact h) (by assumption) (by rfl) ?_
                    try simp only [Act.put, List.setIfInBounds_toArray, List.set_cons_zero, List.set_cons_succ]
                    refine any_skip 32 rfl (by kernel_rfl) (by intro _ _ _ h; exact h) (by assumption) (by rfl) ?_
                    try simp only [Act.put, List.setIfInBounds_toArray, List.set_cons_zero, List.set_cons_succ]
                    refine any_skip 33 rfl (by kernel_rfl) (by intro _ _ _ h; exact h) (by assumption) (by rfl) ?_
                    try simp only [Act.put, List.setIfInBounds_toArray, List.set_cons_zero, List.set_cons_succ]
                    refine any_skip 34 rfl (by kernel_rfl) (by intro _ _ _ h; exact h) (by assumption) (by rfl) ?_
                    try simp only [Act.put, List.setIfInBounds_toArray, List.set_cons_zero, List.set_cons_succ]
                    refine any_pure 35 (v := ?_) rfl (by kernel_rfl) (by intro _ _ _ h; exact h) (by assumption) (by rfl) (fun W hW => ?_) ?_
                    rotate_left
                    · first | (go_simp; done) | (go_simp; with_reducible rfl)
                    try simp only [Act.put, List.setIfInBounds_toArray, List.set_cons_zero, List.set_cons_succ]
                    refine any_done (by kernel_rfl) ?_
                    go_wp2
                    go_ret2
                    exact ⟨_, by rw [HF.out]; rfl, by rw [HF.out]; exact MineS.nil_at 2 (by repeat (first | exact HBW | apply sub_drewN)) _⟩
                  · have c3' : (wrap64 (wrap64 (T - t) - 1) != a) = false := by simpa using c3
                    have c4 : (wrap64 (V - x) != b) = true := by
                      simp only [bne_iff_ne, ne_eq] at c3 ⊢
                      rcases hB with h | h | h | h
                      · exact absurd h c1
                      · exact absurd h c2
                      · exact absurd h c3
                      · exact h
                    have d1 : decide (a < 0) = false := by simp [c1]
                    have d2 : decide (V < 0) = false := by simp [c2]
                    have k3 := wrapw2 c3'
                    have k4 := wrapw c4
                    clear hB c3
                    go_wp2
                    refine any_start (S := fun W => ∀ p, W.cell? p = W2.cell? p) (by kernel_rfl) (fun _ => rfl) ?_
                    have hS3 : ∀ p, W2.drew.cell? p = W2.cell? p := fun _ => rfl
                    simp only [List.length_cons, List.length_nil, Nat.reduceAdd, List.size_toArray]
                    refine any_pure 0 (v := ?_) rfl (by kernel_rfl) (by intro _ _ _ h; exact h) (by assumption) (by rfl) (fun W hW => ?_) ?_
                    rotate_left
                    · first | (go_simp; done) | (go_simp; with_reducible rfl)
                    try simp only [Act.put, List.setIfInBounds_toArray, List.set_cons_zero, List.set_cons_succ]
                    refine any_pure 1 (v := ?_) rfl (by kernel_rfl) (by intro _ _ _ h; exact h) (by assumption) (by rfl) (fun W hW => ?_) ?_
                    rotate_left
                    · first | (go_simp; done) | (go_simp; with_reducible rfl)
                    try simp only [Act.put, List.setIfInBounds_toArray, List.set_cons_zero, List.set_cons_succ]
                    refine any_pure 2 (v := ?_) rfl (by kernel_rfl) (by intro _ _ _ h; exact h) (by assumption) (by rfl) (fun W hW => ?_) ?_
                    rotate_left
                    · first | (go_simp; done) | (go_simp; with_reducible rfl)
                    try simp only [Act.put, List.setIfInBounds_toArray, List.set_cons_zero, List.set_cons_succ]
                    refine any_pure 3 (v := ?_) rfl (by kernel_rfl) (by intro _ _ _ h; exact h) (by assumption) (by rfl) (fun W hW => ?_) ?_
                    rotate_left
                    · first | (go_simp; done) | (go_simp; with_reducible rfl)
                    try simp only [Act.put, List.setIfInBounds_toArray, List.set_cons_zero, List.set_cons_succ]
                    refine any_pure 4 (v := ?_) rfl (by kernel_rfl) (by intro _ _ _ h; exact h) (by assumption) (by rfl) (fun W hW => ?_) ?_
                    rotate_left
                    · first | (go_simp; done) | (go_simp; with_reducible rfl)
                    try simp only [Act.put, List.setIfInBounds_toArray, List.set_cons_zero, List.set_cons_succ]
                    refine any_pure 5 (v := ?_) rfl (by kernel_rfl) (by intro _ _ _ h; exact h) (by assumption) (by rfl) (fun W hW => ?_) ?_
                    rotate_left
                    · first | (go_simp; done) | (go_simp; with_reducible rfl)
                    try simp only [Act.put, List.setIfInBounds_toArray, List.set_cons_zero, List.set_cons_succ]
                    refine any_pure 6 (v := ?_) rfl (by kernel_rfl) (by intro _ _ _ h; exact h) (by assumption) (by rfl) (fun W hW => ?_) ?_
                    rotate_left
                    · first | (go_simp; done) | (go_simp; with_reducible rfl)
                    try simp only [Act.put, List.setIfInBounds_toArray, List.set_cons_zero, List.set_cons_succ]
                    refine any_pure 7 (v := ?_) rfl (by kernel_rfl) (by intro _ _ _ h; exact h) (by assumption) (by rfl) (fun W hW => ?_) ?_
                    rotate_left
                    · first | (go_simp; done) | (go_simp; with_reducible rfl)
                    try simp only [Act.put, List.setIfInBounds_toArray, List.set_cons_zero, List.set_cons_succ]
                    refine any_pure 8 (v := ?_) rfl (by kernel_rfl) (by intro _ _ _ h; exact h) (by assumption) (by rfl) (fun W hW => ?_) ?_
                    rotate_left
                    · first | (go_simp; done) | (go_simp; with_reducible rfl)
                    try simp only [Act.put, List.setIfInBounds_toArray, List.set_cons_zero, List.set_cons_succ]
                    refine any_pure 9 (v := ?_) rfl (by kernel_rfl) (by intro _ _ _ h; exact h) (by assumption) (by rfl) (fun W hW => ?_) ?_
                    rotate_left
                    · first | (go_simp; done) | (go_simp; with_reducible rfl)
                    try simp only [Act.put, List.setIfInBounds_toArray, List.set_cons_zero, List.set_cons_succ]
                    refine any_pure 10 (v := ?_) rfl (by kernel_rfl) (by intro _ _ _ h; exact h) (by assumption) (by rfl) (fun W hW => ?_) ?_
                    rotate_left
                    · first | (go_simp; done) | (go_simp; with_reducible rfl)
                    try simp only [Act.put, List.setIfInBounds_toArray, List.set_cons_zero, List.set_cons_succ]
                    refine any_pure 11 (v := ?_) rfl (by kernel_rfl) (by intro _ _ _ h; exact h) (by assumption) (by rfl) (fun W hW => ?_) ?_
                    rotate_left
                    · first | (go_simp; done) | (go_simp; with_reducible rfl)
                    try simp only [Act.put, List.setIfInBounds_toArray, List.set_cons_zero, List.set_cons_succ]
                    refine any_pure 12 (v := ?_) rfl (by kernel_rfl) (by intro _ _ _ h; exact h) (by assumption) (by rfl) (fun W hW => ?_) ?_
                    rotate_left
                    · first | (go_simp; done) | (go_simp; with_reducible rfl)
                    try simp only [Act.put, List.setIfInBounds_toArray, List.set_cons_zero, List.set_cons_succ]
                    refine any_pure 13 (v := ?_) rfl (by kernel_rfl) (by intro _ _ _ h; exact h) (by assumption) (by rfl) (fun W hW => ?_) ?_
                    rotate_left
                    · first | (go_simp; done) | (go_simp; with_reducible rfl)
                    try simp only [Act.put, List.setIfInBounds_toArray, List.set_cons_zero, List.set_cons_succ]
                    refine any_pure 14 (v := ?_) rfl (by kernel_rfl) (by intro _ _ _ h; exact h) (by assumption) (by rfl) (fun W hW => ?_) ?_
                    rotate_left
                    · first | (go_simp; done) | (go_simp; with_reducible rfl)
                    try simp only [Act.put, List.setIfInBounds_toArray, List.set_cons_zero, List.set_cons_succ]
                    refine any_pure 15 (v := ?_) rfl (by kernel_rfl) (by intro _ _ _ h; exact h) (by assumption) (by rfl) (fun W hW => ?_) ?_
                    rotate_left
                    · first | (go_simp; done) | (go_simp; with_reducible rfl)
                    try simp only [Act.put, List.setIfInBounds_toArray, List.set_cons_zero, List.set_cons_succ]
                    refine any_pure 16 (v := ?_) rfl (by kernel_rfl) (by intro _ _ _ h; exact h) (by assumption) (by rfl) (fun W hW => ?_) ?_
                    rotate_left
                    · first | (go_simp; done) | (go_simp; with_reducible rfl)
                    try simp only [Act.put, List.setIfInBounds_toArray, List.set_cons_zero, List.set_cons_succ]
                    refine any_pure 17 (v := ?_) rfl (by kernel_rfl) (by intro _ _ _ h; exact h) (by assumption) (by rfl) (fun W hW => ?_) ?_
                    rotate_left
                    · first | (go_simp; done) | (go_simp; with_reducible rfl)
                    try simp only [Act.put, List.setIfInBounds_toArray, List.set_cons_zero, List.set_cons_succ]
                    refine any_pure 18 (v := ?_) rfl (by kernel_rfl) (by intro _ _ _ h; exact h) (by assumption) (by rfl) (fun W hW => ?_) ?_
                    rotate_left
                    · first | (go_simp; done) | (go_simp; with_reducible rfl)
                    try simp only [Act.put, List.setIfInBounds_toArray, List.set_cons_zero, List.set_cons_succ]
                    refine any_pure 19 (v := ?_) rfl (by kernel_rfl) (by intro _ _ _ h; exact h) (by assumption) (by rfl) (fun W hW => ?_) ?_
                    rotate_left
                    · first | (go_simp; done) | (go_simp; with_reducible rfl)
                    try simp only [Act.put, List.setIfInBounds_toArray, List.set_cons_zero, List.set_cons_succ]
                    refine any_pure 20 (v := ?_) rfl (by kernel_rfl) (by intro _ _ _ h; exact h) (by assumption) (by rfl) (fun W hW => ?_) ?_
                    rotate_left
                    · first | (go_simp; done) | (go_simp; with_reducible rfl)
                    try simp only [Act.put, List.setIfInBounds_toArray, List.set_cons_zero, List.set_cons_succ]
                    refine any_pure 21 (v := ?_) rfl (by kernel_rfl) (by intro _ _ _ h; exact h) (by assumption) (by rfl) (fun W hW => ?_) ?_
                    rotate_left
                    · first | (go_simp; done) | (go_simp; with_reducible rfl)
                    try simp only [Act.put, List.setIfInBounds_toArray, List.set_cons_zero, List.set_cons_succ]
                    refine any_pure 22 (v := ?_) rfl (by kernel_rfl) (by intro _ _ _ h; exact h) (by assumption) (by rfl) (fun W hW => ?_) ?_
                    rotate_left
                    · first | (go_simp; done) | (go_simp; with_reducible rfl)
                    try simp only [Act.put, List.setIfInBounds_toArray, List.set_cons_zero, List.set_cons_succ]
                    refine any_pure 23 (v := ?_) rfl (by kernel_rfl) (by intro _ _ _ h; exact h) (by assumption) (by rfl) (fun W hW => ?_) ?_
                    rotate_left
                    · first | (go_simp; done) | (go_simp; with_reducible rfl)
                    try simp only [Act.put, List.setIfInBounds_toArray, List.set_cons_zero, List.set_cons_succ]
                    refine any_pure 24 (v := ?_) rfl (by kernel_rfl) (by intro _ _ _ h; exact h) (by assumption) (by rfl) (fun W hW => ?_) ?_
                    rotate_left
                    · first | (go_simp; done) | (go_simp; with_reducible rfl)
                    try simp only [Act.put, List.setIfInBounds_toArray, List.set_cons_zero, List.set_cons_succ]
                    refine any_pure 25 (v := ?_) rfl (by kernel_rfl) (by intro _ _ _ h; exact h) (by assumption) (by rfl) (fun W hW => ?_) ?_
                    rotate_left
                    · first | (go_simp; done) | (go_simp; with_reducible rfl)
                    try simp only [Act.put, List.setIfInBounds_toArray, List.set_cons_zero, List.set_cons_succ]
                    refine any_pure 26 (v := ?_) rfl (by kernel_rfl) (by intro _ _ _ h; exact h) (by assumption) (by rfl) (fun W hW => ?_) ?_
                    rotate_left
                    · first | (go_simp; done) | (go_simp; with_reducible rfl)
                    try simp only [Act.put, List.setIfInBounds_toArray, List.set_cons_zero, List.set_cons_succ]
                    refine any_pure 27 (v := ?_) rfl (by kernel_rfl) (by intro _ _ _ h; exact h) (by assumption) (by rfl) (fun W hW => ?_) ?_
                    rotate_left
                    · first | (go_simp; done) | (go_simp; with_reducible rfl)
                    try simp only [Act.put, List.setIfInBounds_toArray, List.set_cons_zero, List.set_cons_succ]
                    refine any_pure 28 (v := ?_) rfl (by kernel_rfl) (by intro _ _ _ h; exact h) (by assumption) (by rfl) (fun W hW => ?_) ?_
                    rotate_left
                    · first | (go_simp; done) | (go_simp; with_reducible rfl)
                    try simp only [Act.put, List.setIfInBounds_toArray, List.set_cons_zero, List.set_cons_succ]
                    refine any_pure 29 (v := ?_) rfl (by kernel_rfl) (by intro _ _ _ h; exact h) (by assumption) (by rfl) (fun W hW => ?_) ?_
                    rotate_left
                    · first | (go_simp; done) | (go_simp; with_reducible rfl)
                    try simp only [Act.put, List.setIfInBounds_toArray, List.set_cons_zero, List.set_cons_succ]
                    refine any_pure 30 (v := ?_) rfl (by kernel_rfl) (by intro _ _ _ h; exact h) (by assumption) (by rfl) (fun W hW => ?_) ?_
                    rotate_left
                    · first | (go_simp; done) | (go_simp; with_reducible rfl)
                    try simp only [Act.put, List.setIfInBounds_toArray, List.set_cons_zero, List.set_cons_succ]
                    refine any_pure 31 (v := ?_) rfl (by kernel_rfl) (by intro _ _ _ h; exact h) (by assumption) (by rfl) (fun W hW => ?_) ?_
                    rotate_left
                    · first | (go_simp; done) | (go_simp; with_reducible rfl)
                    try simp only [Act.put, List.setIfInBounds_toArray, List.set_cons_zero, List.set_cons_succ]
                    refine any_pure 32 (v := ?_) rfl (by kernel_rfl) (by intro _ _ _ h; exact h) (by assumption) (by rfl) (fun W hW => ?_) ?_
                    rotate_left
                    · first | (go_simp; done) | (go_simp; with_reducible rfl)
                    try simp only [Act.put, List.setIfInBounds_toArray, List.set_cons_zero, List.set_cons_succ]
                    refine any_pure 33 (v := ?_) rfl (by kernel_rfl) (by intro _ _ _ h; exact h) (by assumption) (by rfl) (fun W hW => ?_) ?_
                    rotate_left
                    · first | (go_simp; done) | (go_simp; with_reducible rfl)
                    try simp only [Act.put, List.setIfInBounds_toArray, List.set_cons_zero, List.set_cons_succ]
                    refine any_pure 34 (v := ?_) rfl (by kernel_rfl) (by intro _ _ _ h; exact h) (by assumption) (by rfl) (fun W hW => ?_) ?_
                    rotate_left
                    · first | (go_simp; done) | (go_simp; with_reducible rfl)
                    try simp only [Act.put, List.setIfInBounds_toArray, List.set_cons_zero, List.set_cons_succ]
                    refine any_pure 35 (v := ?_) rfl (by kernel_rfl) (by intro _ _ _ h; exact h) (by assumption) (by rfl) (fun W hW => ?_) ?_
                    rotate_left
                    · first | (go_simp; done) | (go_simp; with_reducible rfl)
                    try simp only [Act.put, List.setIfInBounds_toArray, List.set_cons_zero, List.set_cons_succ]
                    refine any_done (by kernel_rfl) ?_
                    go_wp2
                    go_ret2
                    exact ⟨_, by rw [HF.out]; rfl, by rw [HF.out]; exact MineS.nil_at 2 (by repeat (first | exact HBW | apply sub_drewN)) _⟩
            · obtain ⟨dok, dno, hbad, hon⟩ := HQ.out
              obtain ⟨g1, g2, g3⟩ := dok hgood
              have HO := Lib.hid (HD.out.trans (hon hgood))
              obtain ⟨x0', x1', x2', x3'⟩ := HX.out
              have c1 : ¬ a < 0 := by omega
              have c2 : ¬ V < 0 := by omega
              have c3 : (wrap64 (wrap64 (T - t) - 1) != a) = false := by rw [g1, g3]; simp
              have c4 : (wrap64 (V - x) != b) = false := by rw [g2]; unfold In64 at ib'; have : wrap64 (x + b - x) = b := by unfold wrap64; omega
                                                            rw [this]; simp
              have d1 : decide (a < 0) = false := by simp [c1]
              have d2 : decide (V < 0) = false := by simp [c2]
              have k3 := wrapw2 c3
              have k4 := wrapw c4
              rw [← g1, ← g2] at HO
              have HGD := Lib.hid hgood
              have HT := Lib.hid (And.intro g1 g2)
              have hol := HOL.out
              clear dok dno hbad hon hgood HQ HD g1 g2 g3 x0' x1' x2' x3' hol
              go_wp2
              refine any_start (S := fun W => ∀ p, W.cell? p = W2.cell? p) (by kernel_rfl) (fun _ => rfl) ?_
              have hS3 : ∀ p, W2.drew.cell? p = W2.cell? p := fun _ => rfl
              simp only [List.length_cons, List.length_nil, Nat.reduceAdd, List.size_toArray]
              refine any_pure 0 (v := ?_) rfl (by kernel_rfl) (by intro _ _ _ h; exact h) (by assumption) (by rfl) (fun W hW => ?_) ?_
              rotate_left
              · first | (go_simp; done) | (go_simp; with_reducible rfl)
              try simp only [Act.put, List.setIfInBounds_toArray, List.set_cons_zero, List.set_cons_succ]
              refine any_pure 1 (v := ?_) rfl (by kernel_rfl) (by intro _ _ _ h; exact h) (by assumption) (by rfl) (fun W hW => ?_) ?_
              rotate_left
              · first | (go_simp; done) | (go_simp; with_reducible rfl)
              try simp only [Act.put, List.setIfInBounds_toArray, List.set_cons_zero, List.set_cons_succ]
              refine any_pure 2 (v := ?_) rfl (by kernel_rfl) (by intro _ _ _ h; exact h) (by assumption) (by rfl) (fun W hW => ?_) ?_
              rotate_left
              · first | (go_simp; done) | (go_simp; with_reducible rfl)
              try simp only [Act.put, List.setIfInBounds_toArray, List.set_cons_zero, List.set_cons_succ]
              refine any_pure 3 (v := ?_) rfl (by kernel_rfl) (by intro _ _ _ h; exact h) (by assumption) (by rfl) (fun W hW => ?_) ?_
              rotate_left
              · first | (go_simp; done) | (go_simp; with_reducible rfl)
              try simp only [Act.put, List.setIfInBounds_toArray, List.set_cons_zero, List.set_cons_succ]
              refine any_pure 4 (v := ?_) rfl (by kernel_rfl) (by intro _ _ _ h; exact h) (by assumption) (by rfl) (fun W hW => ?_) ?_
              rotate_left
              · first | (go_simp; done) | (go_simp; with_reducible rfl)
              try simp only [Act.put, List.setIfInBounds_toArray, List.set_cons_zero, List.set_cons_succ]
              refine any_pure 5 (v := ?_) rfl (by kernel_rfl) (by intro _ _ _ h; exact h) (by assumption) (by rfl) (fun W hW => ?_) ?_
              rotate_left
              · first | (go_simp; done) | (go_simp; with_reducible rfl)
              try simp only [Act.put, List.setIfInBounds_toArray, List.set_cons_zero, List.set_cons_succ]
              refine any_pure 6 (v := ?_) rfl (by kernel_rfl) (by intro _ _ _ h; exact h) (by assumption) (by rfl) (fun W hW => ?_) ?_
              rotate_left
              · first | (go_simp; done) | (go_simp; with_reducible rfl)
              try simp only [Act.put, List.setIfInBounds_toArray, List.set_cons_zero, List.set_cons_succ]
              refine any_pure 7 (v := ?_) rfl (by kernel_rfl) (by intro _ _ _ h; exact h) (by assumption) (by rfl) (fun W hW => ?_) ?_
              rotate_left
              · first | (go_simp; done) | (go_simp; with_reducible rfl)
              try simp only [Act.put, List.setIfInBounds_toArray, List.set_cons_zero, List.set_cons_succ]
              refine any_pure 8 (v := ?_) rfl (by kernel_rfl) (by intro _ _ _ h; exact h) (by assumption) (by rfl) (fun W hW => ?_) ?_
              rotate_left
              · first | (go_simp; done) | (go_simp; with_reducible rfl)
              try simp only [Act.put, List.setIfInBounds_toArray, List.set_cons_zero, List.set_cons_succ]
              refine any_pure 9 (v := ?_) rfl (by kernel_rfl) (by intro _ _ _ h; exact h) (by assumption) (by rfl) (fun W hW => ?_) ?_
              rotate_left
              · first | (go_simp; done) | (go_simp; with_reducible rfl)
              try simp only [Act.put, List.setIfInBounds_toArray, List.set_cons_zero, List.set_cons_succ]
              refine any_pure 10 (v := ?_) rfl (by kernel_rfl) (by intro _ _ _ h; exact h) (by assumption) (by rfl) (fun W hW => ?_) ?_
              rotate_left
              · first | (go_simp; done) | (go_simp; with_reducible rfl)
              try simp only [Act.put, List.setIfInBounds_toArray, List.set_cons_zero, List.set_cons_succ]
              refine any_pure 11 (v := ?_) rfl (by kernel_rfl) (by intro _ _ _ h; exact h) (by assumption) (by rfl) (fun W hW => ?_) ?_
              rotate_left
              · first | (go_simp; done) | (go_simp; with_reducible rfl)
              try simp only [Act.put, List.setIfInBounds_toArray, List.set_cons_zero, List.set_cons_succ]
              refine any_pure 12 (v := ?_) rfl (by kernel_rfl) (by intro _ _ _ h; exact h) (by assumption) (by rfl) (fun W hW => ?_) ?_
              rotate_left
              · first | (go_simp; done) | (go_simp; with_reducible rfl)
              try simp only [Act.put, List.setIfInBounds_toArray, List.set_cons_zero, List.set_cons_succ]
              refine any_pure 13 (v := ?_) rfl (by kernel_rfl) (by intro _ _ _ h; exact h) (by assumption) (by rfl) (fun W hW => ?_) ?_
              rotate_left
              · first | (go_simp; done) | (go_simp; with_reducible rfl)
              try simp only [Act.put, List.setIfInBounds_toArray, List.set_cons_zero, List.set_cons_succ]
              refine any_pure 14 (v := ?_) rfl (by kernel_rfl) (by intro _ _ _ h; exact h) (by assumption) (by rfl) (fun W hW => ?_) ?_
              rotate_left
              · first | (go_simp; done) | (go_simp; with_reducible rfl)
              try simp only [Act.put, List.setIfInBounds_toArray, List.set_cons_zero, List.set_cons_succ]
              refine any_pure 15 (v := ?_) rfl (by kernel_rfl) (by intro _ _ _ h; exact h) (by assumption) (by rfl) (fun W hW => ?_) ?_
              rotate_left
              · first | (go_simp; done) | (go_simp; with_reducible rfl)
              try simp only [Act.put, List.setIfInBounds_toArray, List.set_cons_zero, List.set_cons_succ]
              refine any_pure 16 (v := ?_) rfl (by kernel_rfl) (by intro _ _ _ h; exact h) (by assumption) (by rfl) (fun W hW => ?_) ?_
              rotate_left
              · first | (go_simp; done) | (go_simp; with_reducible rfl)
              try simp only [Act.put, List.setIfInBounds_toArray, List.set_cons_zero, List.set_cons_succ]
              refine any_pure 17 (v := ?_) rfl (by kernel_rfl) (by intro _ _ _ h; exact h) (by assumption) (by rfl) (fun W hW => ?_) ?_
              rotate_left
              · first | (go_simp; done) | (go_simp; with_reducible rfl)
              try simp only [Act.put, List.setIfInBounds_toArray, List.set_cons_zero, List.set_cons_succ]
              refine any_pure 18 (v := ?_) rfl (by kernel_rfl) (by intro _ _ _ h; exact h) (by assumption) (by rfl) (fun W hW => ?_) ?_
              rotate_left
              · first | (go_simp; done) | (go_simp; with_reducible rfl)
              try simp only [Act.put, List.setIfInBounds_toArray, List.set_cons_zero, List.set_cons_succ]
              refine any_pure 19 (v := ?_) rfl (by kernel_rfl) (by intro _ _ _ h; exact h) (by assumption) (by rfl) (fun W hW => ?_) ?_
              rotate_left
              · first | (go_simp; done) | (go_simp; with_reducible rfl)
              try simp only [Act.put, List.setIfInBounds_toArray, List.set_cons_zero, List.set_cons_succ]
              refine any_pure 20 (v := ?_) rfl (by kernel_rfl) (by intro _ _ _ h; exact h) (by assumption) (by rfl) (fun W hW => ?_) ?_
              rotate_left
              · first | (go_simp; done) | (go_simp; with_reducible rfl)
              try simp only [Act.put, List.setIfInBounds_toArray, List.set_cons_zero, List.set_cons_succ]
              refine any_pure 21 (v := ?_) rfl (by kernel_rfl) (by intro _ _ _ h; exact h) (by assumption) (by rfl) (fun W hW => ?_) ?_
              rotate_left
              · first | (go_simp; done) | (go_simp; with_reducible rfl)
              try simp only [Act.put, List.setIfInBounds_toArray, List.set_cons_zero, List.set_cons_succ]
              refine any_pure 22 (v := ?_) rfl (by kernel_rfl) (by intro _ _ _ h; exact h) (by assumption) (by rfl) (fun W hW => ?_) ?_
              rotate_left
              · first | (go_simp; done) | (go_simp; with_reducible rfl)
              try simp only [Act.put, List.setIfInBounds_toArray, List.set_cons_zero, List.set_cons_succ]
              refine any_pure 23 (v := ?_) rfl (by kernel_rfl) (by intro _ _ _ h; exact h) (by assumption) (by rfl) (fun W hW => ?_) ?_
              rotate_left
              · first | (go_simp; done) | (go_simp; with_reducible rfl)
              try simp only [Act.put, List.setIfInBounds_toArray, List.set_cons_zero, List.set_cons_succ]
              refine any_pure 24 (v := ?_) rfl (by kernel_rfl) (by intro _ _ _ h; exact h) (by assumption) (by rfl) (fun W hW => ?_) ?_
              rotate_left
              · first | (go_simp; done) | (go_simp; with_reducible rfl)
              try simp only [Act.put, List.setIfInBounds_toArray, List.set_cons_zero, List.set_cons_succ]
              refine any_pure 25 (v := ?_) rfl (by kernel_rfl) (by intro _ _ _ h; exact h) (by assumption) (by rfl) (fun W hW => ?_) ?_
              rotate_left
              · first | (go_simp; done) | (go_simp; with_reducible rfl)
              try simp only [Act.put, List.setIfInBounds_toArray, List.set_cons_zero, List.set_cons_succ]
              refine any_pure 26 (v := ?_) rfl (by kernel_rfl) (by intro _ _ _ h; exact h) (by assumption) (by rfl) (fun W hW => ?_) ?_
              rotate_left
              · first | (go_simp; done) | (go_simp; with_reducible rfl)
              try simp only [Act.put, List.setIfInBounds_toArray, List.set_cons_zero, List.set_cons_succ]
              refine any_pure 27 (v := ?_) rfl (by kernel_rfl) (by intro _ _ _ h; exact h) (by assumption) (by rfl) (fun W hW => ?_) ?_
              rotate_left
              · first | (go_simp; done) | (go_simp; with_reducible rfl)
              try simp only [Act.put, List.setIfInBounds_toArray, List.set_cons_zero, List.set_cons_succ]
              refine any_pure 28 (v := ?_) rfl (by kernel_rfl) (by intro _ _ _ h; exact h) (by assumption) (by rfl) (fun W hW => ?_) ?_
              rotate_left
              · first | (go_simp; done) | (go_simp; with_reducible rfl)
              try simp only [Act.put, List.setIfInBounds_toArray, List.set_cons_zero, List.set_cons_succ]
              refine any_pure 29 (v := ?_) rfl (by kernel_rfl) (by intro _ _ _ h; exact h) (by assumption) (by rfl) (fun W hW => ?_) ?_
              rotate_left
              · first | (go_simp; done) | (go_simp; with_reducible rfl)
              try simp only [Act.put, List.setIfInBounds_toArray, List.set_cons_zero, List.set_cons_succ]
              refine any_pure 30 (v := ?_) rfl (by kernel_rfl) (by intro _ _ _ h; exact h) (by assumption) (by rfl) (fun W hW => ?_) ?_
              rotate_left
              · first | (go_simp; done) | (go_simp; with_reducible rfl)
              try simp only [Act.put, List.setIfInBounds_toArray, List.set_cons_zero, List.set_cons_succ]
              refine any_pure 31 (v := ?_) rfl (by kernel_rfl) (by intro _ _ _ h; exact h) (by assumption) (by rfl) (fun W hW => ?_) ?_
              rotate_left
              · first | (go_simp; done) | (go_simp; with_reducible rfl)
              try simp only [Act.put, List.setIfInBounds_toArray, List.set_cons_zero, List.set_cons_succ]
              refine any_pure 32 (v := ?_) rfl (by kernel_rfl) (by intro _ _ _ h; exact h) (by assumption) (by rfl) (fun W hW => ?_) ?_
              rotate_left
              · first | (go_simp; done) | (go_simp; with_reducible rfl)
              try simp only [Act.put, List.setIfInBounds_toArray, List.set_cons_zero, List.set_cons_succ]
              refine any_pure 33 (v := ?_) rfl (by kernel_rfl) (by intro _ _ _ h; exact h) (by assumption) (by rfl) (fun W hW => ?_) ?_
              rotate_left
              · first | (go_simp; done) | (go_simp; with_reducible rfl)
              try simp only [Act.put, List.setIfInBounds_toArray, List.set_cons_zero, List.set_cons_succ]
              refine any_pure 34 (v := ?_) rfl (by kernel_rfl) (by intro _ _ _ h; exact h) (by assumption) (by rfl) (fun W hW => ?_) ?_
              rotate_left
              · first | (go_simp; done) | (go_simp; with_reducible rfl)
              try simp only [Act.put, List.setIfInBounds_toArray, List.set_cons_zero, List.set_cons_succ]
              refine any_pure 35 (v := ?_) rfl (by kernel_rfl) (by intro _ _ _ h; exact h) (by assumption) (by rfl) (fun W hW => ?_) ?_
              rotate_left
              · first | (go_simp; done) | (go_simp; with_reducible rfl)
              try simp only [Act.put, List.setIfInBounds_toArray, List.set_cons_zero, List.set_cons_succ]
              refine any_done (by kernel_rfl) ?_
              have hgr : wr.grownBy W2.drew none := ⟨hS2.os, hS2.tape, hS2.output, hS2.size, fun k hk _ => hS2.block k hk⟩
              have hm2 : W2.drew.ownsRow (w1.heap.size + 1) 57 2 vo k (smps out) := hm.kept hgr (by cases vo.ownBlock <;> simp)
              have hbk2 : Blk W2.drew w1.heap.size 57 #[.int .i64 t, .int .i64 x] := (show Blk W2 w1.heap.size 57 #[.int .i64 t, .int .i64 x] from hbk.later hS2)
              go_wp2_with (at_builtin; rw [show (W2.alloc (Obj.cells #[Value.int IntKind.i64 T, Value.int IntKind.i64 V] 57)).drew = W2.drew.alloc (Obj.cells #[Value.int IntKind.i64 T, Value.int IntKind.i64 V] 57) from rfl]; go_must (refine wpList_append_oneO elemSmp (by decide) rfl (.tmp 105) (.tmp 107) rfl rfl hm2 (by have := hS2.size; show _ ≤ W2.heap.size; omega) rfl rfl (by simp [Value.oneCell']) (by omega) (by unfold maxLen; omega) ?_); intro v' w' hm' hg'; have hq1 : some wr.heap.size ≠ vo.ownBlock := fun e => (by have := (hm.lt _ e.symm).2; omega); have hq2 : some w1.heap.size ≠ vo.ownBlock := Ne.symm (own_far hm (by omega)); have hbx2 := Blk.grown (w := W2.drew) hbx hg' hq1; have hbk3 := hbk2.grown hg' hq2; clear x0 x1 y0 y1 HB1 HB2 hS3 hbx hbk2; have x0 := hbx2.cell 0; have x1 := hbx2.cell 1; have y0 := hbk3.cell 0; have y1 := hbk3.cell 1; have z0 := hbk3.frozen 0; have z1 := hbk3.frozen 1; simp at x0 x1 y0 y1)
              have hqn : v'.ownBlock ≠ some w1.heap.size := own_far hm' (by omega)
              go_roundw
              case rel =>
                have hgd := HGD.out
                obtain ⟨e1', e2'⟩ := HT.out
                have hjj := HJ.out
                have hol := HOL.out
                obtain ⟨b1', b2', b3', b4'⟩ := HX.out
                have hmm := HM.out
                refine ⟨k + 1, j + 2, T, V, out ++ [⟨T, V⟩], by omega, by omega, by go_num, ?_, ?_, ?_, by simp; omega, by omega, by omega, by omega, by omega, HO⟩
                · rw [← smps_snoc]
                  exact own_set (own_set hm' hqn _) hqn _
                · exact ((((hlw.trans (hS2.mono hlw.size)).drew).grown hg' (Nat.le_trans hlw.size hS2.size) (fun g hg => by have := (hm.lt _ hg).1; omega)).setCell (Nat.le_refl _) _).setCell (Nat.le_refl _) _
                · exact (hbk3.set_ 0 _).set_ 1 _
              case measure => have hjj := HJ.out; have hmm := HM.out; simp [intOf]; omega
          · have hjj := HJ.out
            have hol := HOL.out
            have hjn : ns.length ≤ j := by omega
            have HX : Hid (getS l = (out, 0)) := by
              show _ = _
              rw [HD.out, List.drop_eq_nil_of_le hjn]
              rfl
            have jn : ¬ (j : Int) < ((i64s ns).length : Int) := by omega
            have hmm : MineS 2 w wr 57 vo out.length (smps out) := ⟨by rw [hol]; exact own_lower hm (by have := HB.size; omega), sub_trans HB hlw⟩
            clear hjj hol hN hN2 hlt
            go_wp2
            go_ret2
            exact ⟨_, by rw [HX.out]; rfl, by rw [HX.out]; exact hmm⟩
  · have hb : (perr ec != 0) = true := by rcases hcode with rfl | rfl | rfl <;> first | (exfalso; exact h0 rfl) | decide
    have HF : Hid (getS l = ([], perr ec)) := by show _ = _; rw [HG2.out]; exact if_neg h0
    clear HRES HG2 hcode h0 hln
    go_enter Try.func22, Try.ntmps22
    go_wp2_with fail
    refine (all_at l n hl A c hcc _ hr).mono ?_
    rintro e w1 ⟨v1, rfl, hm1⟩
    rw [HRD.out]
    go_wp2
    go_ret2
    exact ⟨_, by rw [HF.out]; rfl, by rw [HF.out]; exact MineS.nil_at 2 hm1.below _⟩
end Go.Proofs.Ytomncdnkiommfaa
