/-
  The walks of series.Right, pack.Check, pack.Put, pack.Size and of the reference's Check and Put. Conditions: at most 100000 samples, numbers of 64 bits.
-/
import Derived.Test.YtomncdnkiommfaaZigReads
import Derived.Test.YtomncdnkiommfaaPackPlain
namespace Go.Fw
open Go.RowKit
/-- a block that is known whole -/
def Blk (w : World) (g : Nat) (t : TypeId) (cs : Array Value) : Prop := w.heap[g]? = some (.cells cs t (0, 0))
section
variable {w w' : World} {g : Nat} {t : TypeId} {cs : Array Value}
theorem Blk.lt (h : Blk w g t cs) : g < w.heap.size := (Array.getElem?_eq_some_iff.1 h).1
theorem Blk.cell (h : Blk w g t cs) (i : Nat) : w.cell? ⟨g, i, none⟩ = cs[i]? := cell_of_row w g i cs t (0, 0) h
theorem Blk.frozen (h : Blk w g t cs) (i : Nat) : w.frozen? ⟨g, i, none⟩ = false := by
  unfold Blk at h
  simp [World.frozen?, h]
theorem Blk.new_at (w : World) (t : TypeId) (cs : Array Value) (hg : g = w.heap.size) : Blk (w.alloc (.cells cs t)) g t cs := by subst hg; exact heap_alloc_new w _
theorem Blk.alloc (h : Blk w g t cs) (o : Obj) : Blk (w.alloc o) g t cs := (Below.heap_alloc w o g h.lt).trans h
theorem Blk.set_ (h : Blk w g t cs) (i : Nat) (u : Value) : Blk (w.setCell ⟨g, i, none⟩ u) g t (cs.setIfInBounds i u) := by
  unfold Blk at h ⊢
  simp [World.setCell, Array.getElem?_modify, h]
theorem Blk.later (h : Blk w g t cs) (hb : Below w.heap.size w w') : Blk w' g t cs := (hb.block g h.lt).trans h
theorem Blk.grown {row : Option Nat} (h : Blk w g t cs) (hb : w.grownBy w' row) (hg : some g ≠ row) : Blk w' g t cs := (hb.block g h.lt hg).trans h
theorem own_ne {base : Nat} {e : TypeId} {size n : Nat} {v : Value} {xs : List Value} (h : w.ownsRow base e size v n xs) (hg : Blk w g t cs) (hne : e ≠ t) : v.ownBlock ≠ some g := by
  rcases h.2 with ⟨rfl, _⟩ | ⟨g', cap, cur, rfl, _, hh, _⟩
  · simp [Value.ownBlock]
  · intro he
    have : g' = g := by simpa [Value.ownBlock] using he
    subst this
    unfold Blk at hg
    rw [hh] at hg
    injection hg with hg
    injection hg with _ ht
    exact hne ht
end
theorem Mine.set_ {w0 w : World} {e : TypeId} {v : Value} {xs : List Value} (h : Mine w0 w e v xs) {p : Addr} (hp : w0.heap.size ≤ p.block) (hne : v.ownBlock ≠ some p.block) (u : Value) : Mine w0 (w.setCell p u) e v xs := by
  refine ⟨h.own.kept (row := some p.block) ⟨rfl, rfl, rfl, by simp [World.setCell], fun k _ hk => Below.heap_setCell w p u k (fun e => hk (by rw [e]))⟩ (.inr hne), h.below.setCell hp u⟩
theorem Mine.alloc {w0 w : World} {e : TypeId} {v : Value} {xs : List Value} (h : Mine w0 w e v xs) (o : Obj) : Mine w0 (w.alloc o) e v xs := ⟨h.own.alloc o, sub_alloc h.below o⟩
end Go.Fw
namespace Go.Proofs.Ytomncdnkiommfaa
open Go.RowKit Go.Fw
set_option maxHeartbeats 1000000
set_option maxRecDepth 4000
set_option linter.unusedVariables false
set_option linter.unusedSimpArgs false

def rightS (t v : Int) : Int := if t < 0 then 3 else if v < 0 then 4 else 0
theorem right_any (t v : Int) (w : World) : Calls Try.prog 31 #[.int .i64 t, .int .i64 v] w fun e w' => e = .returned (.int .i64 (rightS t v)) ∧ w = w' := by
  by_cases h1 : t < 0
  · have H : Hid (rightS t v = 3) := by show _ = _; unfold rightS; rw [if_pos h1]
    go_enter Try.func31, Try.ntmps31
    go_wp2
    go_ret
    exact ⟨ret_i H.out.symm, rfl⟩
  · by_cases h2 : v < 0
    · have H : Hid (rightS t v = 4) := by show _ = _; unfold rightS; rw [if_neg h1, if_pos h2]
      go_enter Try.func31, Try.ntmps31
      go_wp2
      go_ret
      exact ⟨ret_i H.out.symm, rfl⟩
    · have H : Hid (rightS t v = 0) := by show _ = _; unfold rightS; rw [if_neg h1, if_neg h2]
      go_enter Try.func31, Try.ntmps31
      go_wp2
      go_ret
      exact ⟨ret_i H.out.symm, rfl⟩

def prevT (l : List Smp) (k : Nat) : Int := ((l.take k).getLastD ⟨-1, 0⟩).tick
theorem prevT_zero (l : List Smp) : prevT l 0 = -1 := rfl
theorem prevT_succ {l : List Smp} {k : Nat} (hk : k < l.length) : prevT l (k + 1) = l[k].tick := by unfold prevT; rw [last_take _ hk]

theorem check_any (l : List Smp) (A : Option Addr) (c n : Nat) (w : World) (hr : Reads w w.heap.size 2 A n (smps l)) (hl : n ≤ 100000) :
    Calls Try.prog 26 #[.slice A n c] w fun e w' => e = .returned (.int .i64 (checkS l)) ∧ Below w.heap.size w w' := by
  have hn := smp_len hr
  have HN := Lib.hid hn
  by_cases h256 : 256 < n
  · have HF : Hid (checkS l = 12) := by show _ = _; unfold checkS; rw [if_pos (by omega)]
    clear hn
    go_enter Try.func26, Try.ntmps26
    go_wp2
    go_ret
    exact ⟨ret_i HF.out.symm, Below.refl _ _⟩
  · have HF : Hid (checkS l = chk (-1) l) := by show _ = _; unfold checkS; rw [if_neg (by omega)]
    clear hn
    go_enter Try.func26, Try.ntmps26
    go_wp2
    go_loopw [11] (fun i wr => ∃ (k : Nat), k ≤ n ∧ i = .int .i64 k ∧ Hid (checkS l = chk (prevT l k) (l.drop k)) ∧ Below w.heap.size w wr) (fun i _ => n - (intOf i).toNat)
    case atStart => exact ⟨0, by omega, rfl, by rw [HF.out]; exact Lib.hid rfl, Below.refl _ _⟩
    case round =>
      obtain ⟨k, hk, rfl, HG, hb⟩ := hrel
      by_cases hlt : k < n
      · have hkl : k < l.length := by have := HN.out; omega
        have hjl : k - 1 < l.length := by omega
        obtain ⟨bl, off, rfl, h0, h1, h2, h3⟩ := smp_two (hr.up hb) hkl hjl
        have a2 : ∀ o, (wr.alloc o).cell? ⟨bl, off + (k - 1) * 2, none⟩ = some (.int .i64 l[k - 1].tick) := fun o => (World.cell?_alloc_lt wr o _ (World.block_lt_of_cell? wr _ h2)).trans h2
        have b1 := chk_bad1 (prevT l k) hkl
        have b2 := chk_bad2 (prevT l k) hkl
        have b3 := chk_bad3 (prevT l k) hkl
        have b4 := chk_on (prevT l k) hkl
        have hp : 0 < k → prevT l k = l[k - 1].tick := by
          intro h
          have := prevT_succ hjl
          rwa [show k - 1 + 1 = k by omega] at this
        have HP := Lib.hid (prevT_succ hkl)
        have hz : k = 0 → prevT l k = -1 := by rintro rfl; rfl
        generalize hT : l[k].tick = T at *
        generalize hV : l[k].value = V at *
        generalize l[k - 1].tick = PT at *
        generalize l[k - 1].value = PV at *
        generalize hq : prevT l k = q at *
        clear hT hV hq
        have hb2 : ∀ o, Below w.heap.size w (wr.alloc o) := fun o => sub_alloc hb o
        by_cases c1 : T < 0
        · have HX := Lib.hid (b1 c1)
          have hrr : rightS T V = 3 := by unfold rightS; rw [if_pos c1]
          clear b1 b2 b3 b4 hp hz c1
          go_wp2_with (go_at_call 31; refine (right_any _ _ _).mono ?_; rintro e w' ⟨rfl, rfl⟩)
          go_ret
          exact ⟨ret_i (by rw [HG.out, HX.out]), hb2 _⟩
        · by_cases c2 : V < 0
          · have HX := Lib.hid (b2 c1 c2)
            have hrr : rightS T V = 4 := by unfold rightS; rw [if_neg c1, if_pos c2]
            clear b1 b2 b3 b4 hp hz c1 c2
            go_wp2_with (go_at_call 31; refine (right_any _ _ _).mono ?_; rintro e w' ⟨rfl, rfl⟩)
            go_ret
            exact ⟨ret_i (by rw [HG.out, HX.out]), hb2 _⟩
          · have hrr : rightS T V = 0 := by unfold rightS; rw [if_neg c1, if_neg c2]
            by_cases hk0 : 0 < k
            · have hpp := hp hk0
              rw [hpp] at b3 b4
              have i1 : (0 : Int) < (k : Int) := by omega
              have i2 : (0 : Int) ≤ (k : Int) - 1 := by omega
              have i3 : (k : Int) - 1 < (n : Int) := by omega
              by_cases c3 : T ≤ PT
              · have HX := Lib.hid (b3 c1 c2 c3)
                clear b1 b2 b3 b4 hp hz c1 c2
                have HPP := Lib.hid hpp
                clear hpp
                go_wp2_with (go_at_call 31; refine (right_any _ _ _).mono ?_; rintro e w' ⟨rfl, rfl⟩)
                go_quiet (fail)
                go_wp2
                go_ret
                exact ⟨ret_i (by rw [HG.out, HPP.out, HX.out]), by repeat (first | exact hb | apply sub_drewN | apply sub_alloc)⟩
              · have HX := Lib.hid (b4 c1 c2 c3)
                clear b1 b2 b3 b4 hp hz c1 c2
                have HPP := Lib.hid hpp
                clear hpp
                go_wp2_with (go_at_call 31; refine (right_any _ _ _).mono ?_; rintro e w' ⟨rfl, rfl⟩)
                go_quiet (fail)
                go_wp2
                go_roundw
                case rel => exact ⟨k + 1, by omega, by go_num, Lib.hid (by rw [HG.out, HPP.out, HX.out, HP.out]), by repeat (first | exact hb | apply sub_drewN | apply sub_alloc)⟩
                case measure => simp [intOf]; omega
            · have hpp := hz (by omega)
              rw [hpp] at b4
              have HX := Lib.hid (b4 c1 c2 (by omega))
              have i1 : decide ((0 : Int) < (k : Int)) = false := by simp; omega
              clear b1 b2 b3 b4 hp hz c1 c2
              have HPP := Lib.hid hpp
              clear hpp
              go_wp2_with (go_at_call 31; refine (right_any _ _ _).mono ?_; rintro e w' ⟨rfl, rfl⟩)
              go_quiet (fail)
              go_wp2
              go_roundw
              case rel => exact ⟨k + 1, by omega, by go_num, Lib.hid (by rw [HG.out, HPP.out, HX.out, HP.out]), by repeat (first | exact hb | apply sub_drewN | apply sub_alloc)⟩
              case measure => simp [intOf]; omega
      · have HX : Hid (checkS l = 0) := by
          show _ = _
          rw [HG.out, List.drop_eq_nil_of_le (by have := HN.out; omega)]
          rfl
        go_wp2
        go_ret
        exact ⟨ret_i HX.out.symm, hb⟩
theorem rcheck_any (l : List Smp) (A : Option Addr) (c n : Nat) (w : World) (hr : Reads w w.heap.size 2 A n (smps l)) (hl : n ≤ 100000) :
    Calls Try.prog 23 #[.slice A n c] w fun e w' => e = .returned (.int .i64 (checkS l)) ∧ Below w.heap.size w w' := by
  have hn := smp_len hr
  have HN := Lib.hid hn
  by_cases h256 : 256 < n
  · have HF : Hid (checkS l = 12) := by show _ = _; unfold checkS; rw [if_pos (by omega)]
    clear hn
    go_enter Try.func23, Try.ntmps23
    go_wp2
    go_ret
    exact ⟨ret_i HF.out.symm, Below.refl _ _⟩
  · have HF : Hid (checkS l = chk (-1) l) := by show _ = _; unfold checkS; rw [if_neg (by omega)]
    clear hn
    go_enter Try.func23, Try.ntmps23
    go_wp2
    go_loopw [3] (fun i wr => ∃ (k : Nat), k ≤ n ∧ i = .int .i64 k ∧ Hid (checkS l = chk (prevT l k) (l.drop k)) ∧ Hid (∃ q, wr = w.drewN q)) (fun i _ => n - (intOf i).toNat)
    case atStart => exact ⟨0, by omega, rfl, by rw [HF.out]; exact Lib.hid rfl, Lib.hid ⟨0, rfl⟩⟩
    case round =>
      obtain ⟨k, hk, rfl, HG, HW⟩ := hrel
      obtain ⟨q0, rfl⟩ := HW.out
      clear HW
      have hb := Below.refl w.heap.size w
      by_cases hlt : k < n
      · have hkl : k < l.length := by have := HN.out; omega
        have hjl : k - 1 < l.length := by omega
        obtain ⟨bl, off, rfl, h0, h1, h2, h3⟩ := smp_two hr hkl hjl
        have b1 := chk_bad1 (prevT l k) hkl
        have b2 := chk_bad2 (prevT l k) hkl
        have b3 := chk_bad3 (prevT l k) hkl
        have b4 := chk_on (prevT l k) hkl
        have hp : 0 < k → prevT l k = l[k - 1].tick := by
          intro h
          have := prevT_succ hjl
          rwa [show k - 1 + 1 = k by omega] at this
        have HP := Lib.hid (prevT_succ hkl)
        have hz : k = 0 → prevT l k = -1 := by rintro rfl; rfl
        generalize hT : l[k].tick = T at *
        generalize hV : l[k].value = V at *
        generalize l[k - 1].tick = PT at *
        generalize l[k - 1].value = PV at *
        generalize hq : prevT l k = q at *
        clear hT hV hq
        by_cases c1 : T < 0
        · have HX := Lib.hid (b1 c1)
          clear b1 b2 b3 b4 hp hz
          go_wp2
          go_ret
          exact ⟨ret_i (by rw [HG.out, HX.out]), by repeat (first | exact hb | apply sub_drewN | apply sub_alloc)⟩
        · by_cases c2 : V < 0
          · have HX := Lib.hid (b2 c1 c2)
            clear b1 b2 b3 b4 hp hz
            go_wp2
            go_ret
            exact ⟨ret_i (by rw [HG.out, HX.out]), by repeat (first | exact hb | apply sub_drewN | apply sub_alloc)⟩
          · have hrr : rightS T V = 0 := by unfold rightS; rw [if_neg c1, if_neg c2]
            by_cases hk0 : 0 < k
            · have hpp := hp hk0
              rw [hpp] at b3 b4
              have i1 : (0 : Int) < (k : Int) := by omega
              have i2 : (0 : Int) ≤ (k : Int) - 1 := by omega
              have i3 : (k : Int) - 1 < (n : Int) := by omega
              by_cases c3 : T ≤ PT
              · have HX := Lib.hid (b3 c1 c2 c3)
                clear b1 b2 b3 b4 hp hz
                have HPP := Lib.hid hpp
                clear hpp
                go_wp2
                go_quiet (fail)
                go_wp2
                go_ret
                exact ⟨ret_i (by rw [HG.out, HPP.out, HX.out]), by repeat (first | exact hb | apply sub_drewN | apply sub_alloc)⟩
              · have HX := Lib.hid (b4 c1 c2 c3)
                clear b1 b2 b3 b4 hp hz
                have HPP := Lib.hid hpp
                clear hpp
                go_wp2
                go_quiet (fail)
                go_wp2
                go_roundw
                case rel => exact ⟨k + 1, by omega, by go_num, Lib.hid (by rw [HG.out, HPP.out, HX.out, HP.out]), Lib.hid ⟨_, rfl⟩⟩
                case measure => simp [intOf]; omega
            · have hpp := hz (by omega)
              rw [hpp] at b4
              have HX := Lib.hid (b4 c1 c2 (by omega))
              have i1 : decide ((0 : Int) < (k : Int)) = false := by simp; omega
              clear b1 b2 b3 b4 hp hz
              have HPP := Lib.hid hpp
              clear hpp
              go_wp2
              go_quiet (fail)
              go_wp2
              go_roundw
              case rel => exact ⟨k + 1, by omega, by go_num, Lib.hid (by rw [HG.out, HPP.out, HX.out, HP.out]), Lib.hid ⟨_, rfl⟩⟩
              case measure => simp [intOf]; omega
      · have HX : Hid (checkS l = 0) := by
          show _ = _
          rw [HG.out, List.drop_eq_nil_of_le (by have := HN.out; omega)]
          rfl
        go_wp2
        go_ret
        exact ⟨ret_i HX.out.symm, by repeat (first | exact hb | apply sub_drewN | apply sub_alloc)⟩
end Go.Proofs.Ytomncdnkiommfaa
