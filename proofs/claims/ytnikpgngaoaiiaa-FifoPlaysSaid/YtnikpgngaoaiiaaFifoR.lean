/-
  The reference's Has and Drop. Condition: lists that are not long.
-/
import Derived.Test.YtnikpgngaoaiiaaFifoA
import Derived.Deep.Cut
namespace Go.Fw
open Go.RowKit
set_option linter.unusedVariables false
theorem idx_at {l : List Int} {x : Int} {k : Nat} (h : l[k]? = some x) (hn : ∀ j, j < k → l[j]? ≠ some x) : Lib.idxOf l x = (k : Int) := by
  rcases idx_cases l x with ⟨_, h2, _⟩ | ⟨k', h1, _, h3, h4, _⟩
  · exact (h2 (List.mem_of_getElem? h)).elim
  · rcases Nat.lt_trichotomy k k' with h5 | h5 | h5
    · exact (h4 k h5 h).elim
    · rw [h1, h5]
    · exact (hn k' h5 h3).elim
theorem idx_none {l : List Int} {x : Int} (hn : ∀ j, j < l.length → l[j]? ≠ some x) : Lib.idxOf l x = -1 := by
  rcases idx_cases l x with ⟨h1, _⟩ | ⟨k', _, h2, h3, _⟩
  · exact h1
  · exact (hn k' h2 h3).elim
theorem Reads.pre {w : World} {B n k : Nat} {A : Option Addr} {xs : List Value} (h : Reads w B 1 A n xs) (hk : k ≤ n) : Reads w B 1 A k (xs.take k) := by
  refine ⟨by have := h.1; simp; omega, fun hn => ?_⟩
  obtain ⟨ad, e, hb, hc⟩ := h.2 (by omega)
  refine ⟨ad, e, hb, fun j u hu => hc j u ?_⟩
  rw [List.getElem?_take] at hu
  split at hu
  · exact hu
  · cases hu
theorem ownEmpty {w : World} {B g : Nat} {e : TypeId} {s : Nat} (h : Blk w g e #[]) (hB : B ≤ g) : w.ownsRow B e s (.slice (some ⟨g, 0, none⟩) 0 0) 0 [] := by
  have := own_of_blk (s := s) (n := 0) h hB (by simp) (by simp [maxLen])
  simpa using this
end Go.Fw
namespace Go.Proofs.Ytnikpgngaoaiiaa
open Go.RowKit Go.Fw Go.Shelf
set_option maxHeartbeats 2000000
set_option maxRecDepth 4000
set_option linter.unusedVariables false
set_option linter.unusedSimpArgs false
theorem refhas_any (l : List Int) (A : Option Addr) (c n : Nat) (x : Int) (w : World) (hr : Reads w w.heap.size 1 A n (i64s l)) (hn : n ≤ 100000) :
    Calls Try.prog 15 #[.slice A n c, .int .i64 x] w fun e w' => e = .returned (.bool (decide (0 ≤ Lib.idxOf l x))) ∧ w = w' := by
  have hl : n = l.length := by have := hr.len; rwa [i64s_length] at this
  have HL := Lib.hid hl
  clear hl
  go_enter Try.func15, Try.ntmps15
  go_wp2
  go_loop [5] (fun i => ∃ (k : Nat), k ≤ n ∧ i = .int .i64 k ∧ Hid (∀ j, j < k → l[j]? ≠ some x)) (fun i => n - (intOf i).toNat)
  case atStart => exact ⟨0, Nat.zero_le _, rfl, Lib.hid fun j hj => by omega⟩
  case round =>
    obtain ⟨k, hk, rfl, HJ⟩ := hrel
    by_cases hlt : k < n
    · obtain ⟨ad, u, rfl, _, hux, hc⟩ := hr.at_ hlt
      have hkl : k < l.length := by have := HL.out; omega
      have hu : u = .int .i64 l[k] := by simp [i64s, hkl] at hux; exact hux.symm
      subst hu
      have hlen : (k : Int) < (n : Int) := by omega
      have hg : l[k]? = some l[k] := List.getElem?_eq_getElem hkl
      have HG := Lib.hid hg
      clear hux hg
      generalize l[k] = y at *
      by_cases hy : y = x
      · have hi : Lib.idxOf l x = (k : Int) := idx_at (by rw [HG.out, hy]) HJ.out
        have HI := Lib.hid hi
        have hyx : (y == x) = true := by rw [hy]; simp
        clear hi
        subst hy
        go_wp2
        go_ret
        exact ⟨by rw [HI.out]; simp, rfl⟩
      · have hyx : (y == x) = false := by simpa using hy
        have HY := Lib.hid hy
        clear hy
        go_wp2
        go_round
        case rel => exact ⟨k + 1, by omega, by go_num, Lib.hid fun j hj => by
          rcases Nat.lt_or_ge j k with h | h
          · exact HJ.out j h
          · obtain rfl : j = k := by omega
            rw [HG.out]
            intro e
            exact HY.out (Option.some.inj e)⟩
        case measure => simp [intOf]; omega
    · obtain rfl : k = n := by omega
      have hi : Lib.idxOf l x = -1 := idx_none fun j hj => HJ.out j (by have := HL.out; omega)
      have HI := Lib.hid hi
      clear hi
      go_wp2
      go_ret
      exact ⟨by rw [HI.out]; rfl, rfl⟩
/-- what the reference's Drop hands back -/
def DropP (l : List Int) (A : Option Addr) (c n : Nat) (x : Int) (w : World) (e : Ending) (w' : World) : Prop :=
  (Lib.idxOf l x = -1 ∧ e = .returned (.tuple #[.slice A n c, .bool false]) ∧ w = w') ∨
  ∃ k v, Lib.idxOf l x = ((k : Nat) : Int) ∧ k < l.length ∧ e = .returned (.tuple #[v, .bool true]) ∧ MineS 1 w w' 3 v (l.take k ++ l.drop (k + 1)).length (i64s (l.take k ++ l.drop (k + 1)))
theorem refdrop_any (l : List Int) (A : Option Addr) (c n : Nat) (x : Int) (w : World) (hr : Reads w w.heap.size 1 A n (i64s l)) (hnc : n ≤ c) (hn : n ≤ 100000) :
    Calls Try.prog 7 #[.slice A n c, .int .i64 x] w fun e w' => DropP l A c n x w e w' := by
  have hl : n = l.length := by have := hr.len; rwa [i64s_length] at this
  have HL := Lib.hid hl
  clear hl
  obtain ⟨i, hi, hz, hsz, hby⟩ := info_parts elemIntQ.info
  go_enter Try.func7, Try.ntmps7
  go_wp2
  go_loop [6] (fun i => ∃ (k : Nat), k ≤ n ∧ i = .int .i64 k ∧ Hid (∀ j, j < k → l[j]? ≠ some x)) (fun i => n - (intOf i).toNat)
  case atStart => exact ⟨0, Nat.zero_le _, rfl, Lib.hid fun j hj => by omega⟩
  case round =>
    obtain ⟨k, hk, rfl, HJ⟩ := hrel
    by_cases hlt : k < n
    · obtain ⟨ad, u, rfl, _, hux, hc⟩ := hr.at_ hlt
      have hkl : k < l.length := by have := HL.out; omega
      have hu : u = .int .i64 l[k] := by simp [i64s, hkl] at hux; exact hux.symm
      subst hu
      have hlen : (k : Int) < (n : Int) := by omega
      have hg : l[k]? = some l[k] := List.getElem?_eq_getElem hkl
      have HG := Lib.hid hg
      clear hux hg
      generalize l[k] = y at *
      by_cases hy : y = x
      · have hix : Lib.idxOf l x = (k : Int) := idx_at (by rw [HG.out, hy]) HJ.out
        have HI := Lib.hid (And.intro hix hkl)
        have hyx : (y == x) = true := by rw [hy]; simp
        clear hix hkl
        subst hy
        have hp := hr.pre (k := k) (by omega)
        have hcut := hr.cut (k := k + 1) (cap := c) (by omega) hnc
        rw [Nat.mul_one] at hcut
        have e1 : (i64s l).take k = i64s (l.take k) := by simp [i64s]
        have e2 : (i64s l).drop (k + 1) = i64s (l.drop (k + 1)) := by simp [i64s]
        rw [e1] at hp
        rw [e2] at hcut
        have hb := Blk.new_at w 3 #[] (g := w.heap.size) rfl
        have ho := ownEmpty (B := w.heap.size) (s := 1) hb (Nat.le_refl _)
        have hp2 := hp.alloc (Nat.le_refl _) (.cells #[] 3)
        have hB0 := sub_alloc (Below.refl w.heap.size w) (.cells #[] 3)
        have h1 := i64s_one (l.take k)
        have h2 := i64s_one (l.drop (k + 1))
        have hkc : (k : Int) ≤ (c : Int) := by omega
        have H2 := Lib.hid (And.intro hcut h2)
        clear e1 e2 hcut h2 hb hp
        go_upto_region 6 with (at_builtin; go_must (refine wpList_append_any (w.alloc (.cells #[] 3)) rfl (.tmp 20) (.tmp 23) _ rfl w.heap.size 3 i (.int .i64 0) 1 8 elemIntQ.under hi hz hsz hby rfl (by decide) _ 0 [] rfl ho w.heap.size (some ad) k c (i64s (l.take k)) rfl hp2 h1 (by unfold maxLen; omega) (by omega) (by simp) ?_); intro v1 w1 hm1 hg1 _)
        simp only [Nat.zero_add, List.nil_append] at hm1
        obtain ⟨A1, k1, rfl, hk1, hk1m⟩ := own_form hm1
        have hB1 : Below w.heap.size w w1 := hB0.grown hg1 (by simp) fun j hj => (ho.lt j hj).1
        have hcut := H2.out.1.below hB1
        have h2 := H2.out.2
        have HB := Lib.hid (And.intro hB1 hm1)
        clear hB0 hB1 hg1 hp2 h1 ho
        have hlow : w.heap.size ≤ w1.heap.size := HB.out.1.size
        have hkn : (k : Int) + 1 ≤ (n : Int) := by omega
        have hnci : (n : Int) ≤ (c : Int) := by omega
        by_cases hck : c = k + 1
        · rw [if_pos hck] at hcut
          have hle2 : k + (n - (k + 1)) ≤ 100000 := by omega
          go_wp2_with (at_builtin; go_must (refine wpList_append_any w1 rfl (.tmp 25) (.tmp 29) _ rfl w.heap.size 3 i (.int .i64 0) 1 8 elemIntQ.under hi hz hsz hby rfl (by decide) (.slice A1 k k1) k (i64s (l.take k)) rfl hm1 w.heap.size (some ad) (n - (k + 1)) _ (i64s (l.drop (k + 1))) rfl hcut h2 (by unfold maxLen; omega) (by omega) hlow ?_); intro v2 w2 hm2 hg2 _)
          go_ret2
          have hD : (l.take k ++ l.drop (k + 1)).length = k + (n - (k + 1)) := by have := HL.out; have := HI.out.2; simp; omega
          refine .inr ⟨k, v2, HI.out.1, HI.out.2, rfl, ?_, HB.out.1.grown hg2 hlow fun j hj => (HB.out.2.lt j hj).1⟩
          rw [hD, show i64s (l.take k ++ l.drop (k + 1)) = i64s (l.take k) ++ i64s (l.drop (k + 1)) by simp [i64s]]
          exact hm2
        · rw [if_neg hck] at hcut
          have hck2 : ¬ c - (k + 1) = 0 := by omega
          have hle2 : k + (n - (k + 1)) ≤ 100000 := by omega
          go_wp2_with (at_builtin; go_must (refine wpList_append_any w1 rfl (.tmp 25) (.tmp 29) _ rfl w.heap.size 3 i (.int .i64 0) 1 8 elemIntQ.under hi hz hsz hby rfl (by decide) (.slice A1 k k1) k (i64s (l.take k)) rfl hm1 w.heap.size (Option.map (fun x => x.add (k + 1)) (some ad)) (n - (k + 1)) _ (i64s (l.drop (k + 1))) rfl hcut h2 (by unfold maxLen; omega) (by omega) hlow ?_); intro v2 w2 hm2 hg2 _)
          go_ret2
          have hD : (l.take k ++ l.drop (k + 1)).length = k + (n - (k + 1)) := by have := HL.out; have := HI.out.2; simp; omega
          refine .inr ⟨k, v2, HI.out.1, HI.out.2, rfl, ?_, HB.out.1.grown hg2 hlow fun j hj => (HB.out.2.lt j hj).1⟩
          rw [hD, show i64s (l.take k ++ l.drop (k + 1)) = i64s (l.take k) ++ i64s (l.drop (k + 1)) by simp [i64s]]
          exact hm2
      · have hyx : (y == x) = false := by simpa using hy
        have HY := Lib.hid hy
        clear hy
        go_wp2
        go_round
        case rel => exact ⟨k + 1, by omega, by go_num, Lib.hid fun j hj => by
          rcases Nat.lt_or_ge j k with h | h
          · exact HJ.out j h
          · obtain rfl : j = k := by omega
            rw [HG.out]
            intro e
            exact HY.out (Option.some.inj e)⟩
        case measure => simp [intOf]; omega
    · obtain rfl : k = n := by omega
      have hix : Lib.idxOf l x = -1 := idx_none fun j hj => HJ.out j (by have := HL.out; omega)
      have HI := Lib.hid hix
      clear hix
      go_wp2
      go_ret2
      exact .inl ⟨HI.out, rfl, rfl⟩
end Go.Proofs.Ytnikpgngaoaiiaa
