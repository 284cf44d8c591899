/-
  The walks of budget.Lacks and budget.Fit. Conditions: few elements, numbers of 64 bits.
-/
import Derived.Test.YtkkhdjlloibiiaaBudLaws
namespace Go.Fw
open Go.RowKit
/-- sums that stop at the ends, one after the other -/
def satF : Int → List Int → Int
  | out, [] => out
  | out, x :: r => satF (sat (out + x)) r
theorem satF_on {ls : List Int} {k : Nat} (out : Int) (hk : k < ls.length) : satF out (ls.drop k) = satF (sat (out + ls[k])) (ls.drop (k + 1)) := by rw [List.drop_eq_getElem_cons hk, satF]
def fitW (a : List Adv) (p : List Pol) : List Wnt := List.zipWith (fun x q => ⟨if x.reps < q.q.1 then x.reps else q.q.1, x.reps⟩) a p
theorem fitW_length {a : List Adv} {p : List Pol} (h : a.length = p.length) : (fitW a p).length = a.length := by simp [fitW]; omega
theorem fitW_get {a : List Adv} {p : List Pol} {k : Nat} (h : k < (fitW a p).length) (h1 : k < a.length) (h2 : k < p.length) : (fitW a p)[k] = ⟨if a[k].reps < p[k].q.1 then a[k].reps else p[k].q.1, a[k].reps⟩ := by simp [fitW]
theorem fitW_ok {a : List Adv} {p : List Pol} (ha : ∀ x ∈ a, x.ok) (hp : ∀ x ∈ p, In64 x.q.1) : ∀ x ∈ fitW a p, x.ok := by
  intro x hx
  obtain ⟨k, hk, rfl⟩ := List.getElem_of_mem hx
  have h1 : k < a.length := by simp [fitW] at hk; omega
  have h2 : k < p.length := by simp [fitW] at hk; omega
  rw [fitW_get hk h1 h2]
  have e1 := (ha _ (List.getElem_mem h1)).reps
  have e2 := hp _ (List.getElem_mem h2)
  unfold In64 at *
  exact ⟨by simp only [In64]; split <;> omega, e1⟩
def fitO (a : List Adv) (has : List Int) : List Adv := List.zipWith (fun x h => { x with reps := h }) a has
theorem fitO_length {a : List Adv} {has : List Int} (h : has.length = a.length) : (fitO a has).length = a.length := by simp [fitO]; omega
theorem fitO_get {a : List Adv} {has : List Int} {k : Nat} (h : k < (fitO a has).length) (h1 : k < a.length) (h2 : k < has.length) : (fitO a has)[k] = { a[k] with reps := has[k] } := by simp [fitO]
theorem quiet_a {P : Program} {f : FuncId} {args : Array Value} {w : World} {a n : Nat} {v : Value}
    (h : Calls P f args (w.drewN (a + n)) fun e w' => e = .returned v ∧ w.drewN (a + n) = w') :
    Calls P f args (w.drewN (a + n)) fun e w'' => e = .returned v ∧ ∃ m, w'' = w.drewN (a + m) :=
  h.mono fun _ _ ⟨he, hm⟩ => ⟨he, n, hm.symm⟩
end Go.Fw
namespace Go.Proofs.Ytkkhdjlloibiiaa
open Go.RowKit Go.Fw
set_option maxHeartbeats 1000000
set_option maxRecDepth 4000
set_option linter.unusedVariables false
set_option linter.unusedSimpArgs false

theorem lacks_any (l : List Wnt) (has : List Int) (A A2 : Option Addr) (c c2 n B : Nat) (w : World) (hr : Reads w B 2 A n (wnts l)) (hr2 : Reads w B 1 A2 n (i64s has)) (hB : B ≤ w.heap.size) (hl : n ≤ 1000) (hin : ShInv l has) :
    Calls Try.prog 15 #[.slice A n c, .slice A2 n c2] w fun e w' => e = .returned (.int .i64 (satF 0 (lacksL l has))) ∧ Below w.heap.size w w' := by
  have hn := wnt_len hr
  have HN := Lib.hid hn
  clear hn
  have HF : Hid (satF 0 (lacksL l has) = satF 0 ((lacksL l has).drop 0)) := Lib.hid rfl
  go_enter Try.func15, Try.ntmps15
  go_wp2
  go_loopw [5, 10] (fun b i wr => ∃ (k : Nat) (out : Int), k ≤ n ∧ i = .int .i64 k ∧ b = .int .i64 out ∧ In64 out ∧ Hid (satF 0 (lacksL l has) = satF out ((lacksL l has).drop k)) ∧ Below w.heap.size w wr) (fun _ i _ => n - (intOf i).toNat)
  case atStart => exact ⟨0, 0, by omega, rfl, rfl, ⟨by decide, by decide⟩, HF, Below.refl _ _⟩
  case round =>
    obtain ⟨k, out, hk, rfl, rfl, ho, HG, hb⟩ := hrel
    by_cases hlt : k < n
    · have hkl : k < l.length := by have := HN.out; omega
      have hkh : k < has.length := by have := HN.out; have := hin.len; omega
      have hkk : k < (lacksL l has).length := by rw [lacksL_length hin.len]; exact hkl
      have hbw : Below B w wr := hb.mono hB
      obtain ⟨bl, off, rfl, hbl, g0, g1⟩ := wnt_at (hr.below hbw) hkl
      obtain ⟨ad, u, rfl, hbl2, hx, g2⟩ := (hr2.below hbw).at_ hlt
      obtain rfl := i64s_get hx hkh
      obtain ⟨i1, i2, i3, i4⟩ := hin.at_ k hkl hkh
      have b1 := satF_on out hkk
      rw [lacksL_get hkk hkl hkh] at b1
      generalize l[k] = x at *
      obtain ⟨x0, x1⟩ := x
      generalize has[k] = y at *
      simp only at g0 g1 b1 i1 i2 i3 i4
      have hb2 : ∀ o, Below w.heap.size w (wr.alloc o) := fun o => sub_alloc hb o
      have a2 : ∀ o, (wr.alloc o).cell? (ad.add k) = some (.int .i64 y) := fun o => (World.cell?_alloc_lt wr o _ (World.block_lt_of_cell? wr _ g2)).trans g2
      have iy : In64 y := ⟨by omega, by omega⟩
      have ix : In64 x1 := ⟨by omega, by omega⟩
      have is := sat_in (x1 - y)
      have io := sat_in (out + sat (x1 - y))
      have hlen : (k : Int) < (n : Int) := by omega
      by_cases c1 : y < x1
      · have HX := Lib.hid b1
        have HS : Hid (sat (x1 - y) = x1 - y) := Lib.hid (sat_id _ ⟨by omega, by omega⟩)
        have d1 : decide (y < x1) = true := by simp [c1]
        clear b1 hx i1 i2
        go_wp2
        go_quiet (fail)
        go_wp2
        go_quiet ((first | (go_at_call 19; exact quiet_a (sub_any _ _ _ ix iy)) | (go_at_call 18; exact quiet_a (add_any _ _ _ ho is))))
        go_wp2
        go_roundw
        case rel => exact ⟨k + 1, _, by omega, by go_num, rfl, io, Lib.hid (by rw [HG.out, HX.out, HS.out]), by repeat (first | exact hb | apply sub_drewN | apply sub_alloc)⟩
        case measure => simp [intOf]; omega
      · have hz : x1 - y = 0 := by omega
        rw [hz, Int.add_zero, sat_id out ho] at b1
        have HX := Lib.hid b1
        have d1 : decide (y < x1) = false := by simp [c1]
        clear b1 hx hz i1 i2
        go_wp2
        go_quiet (fail)
        go_wp2
        go_roundw
        case rel => exact ⟨k + 1, out, by omega, by go_num, rfl, ho, Lib.hid (by rw [HG.out, HX.out]), by repeat (first | exact hb | apply sub_drewN | apply sub_alloc)⟩
        case measure => simp [intOf]; omega
    · have HX : Hid (satF 0 (lacksL l has) = out) := by
        show _ = _
        rw [HG.out, List.drop_eq_nil_of_le (by rw [lacksL_length hin.len]; have := HN.out; omega)]
        rfl
      go_wp2
      go_ret
      exact ⟨ret_i HX.out.symm, hb⟩
end Go.Proofs.Ytkkhdjlloibiiaa
