/-
  Right: whether a trace may be, by a map of tracks. Conditions: at most 100000 events.
-/
import Derived.Test.YtbjibpghbaemfaaTrk
import Derived.Maps.OwnOps
import Derived.Maps.Views
namespace Go.Fw
open Go.RowKit
set_option linter.unusedVariables false
def stepF (tr : Int → Tr) (x : Ev) : Int → Tr := fun t => if t = x.task then (tr x.task).next x else tr t
def goodB (tr : Int → Tr) (x : Ev) : Bool := (decide (0 ≤ x.task) && decide (x.task < 32)) && (tr x.task).ok x
def rightF : (Int → Tr) → List Ev → Bool
  | _, [] => true
  | tr, x :: r => goodB tr x && rightF (stepF tr x) r
def rightP (l : List Ev) : Bool := rightF (fun _ => Tr.zero) l
theorem rightF_cons {tr : Int → Tr} {l : List Ev} {k : Nat} (hk : k < l.length) : rightF tr (l.drop k) = (goodB tr l[k] && rightF (stepF tr l[k]) (l.drop (k + 1))) := by
  rw [List.drop_eq_getElem_cons hk, rightF]
theorem stepF_bd {tr : Int → Tr} {k : Nat} (h : ∀ q, 0 ≤ (tr q).nth ∧ (tr q).nth ≤ k) (x : Ev) (q : Int) : 0 ≤ (stepF tr x q).nth ∧ (stepF tr x q).nth ≤ ((k + 1 : Nat) : Int) := by
  unfold stepF
  split
  · have := h x.task
    unfold Tr.next
    simp only
    split <;> omega
  · have := h q
    omega
/-- how a track reads -/
def encTr (t : Tr) : DataW Unit := .agg [.lit (.int .i64 t.nth), .lit (.int .i64 t.last), .lit (.int .u64 t.hi), .lit (.int .u64 t.lo)]
def Rtr (v : Value) : Option (DataW Unit × List MemPlace) :=
  match v with
  | .agg cs => match cs.toList with
    | [.int .i64 a, .int .i64 b, .int .u64 c, .int .u64 d] => some (encTr ⟨a, b, c, d⟩, [])
    | _ => none
  | _ => none
theorem Rtr_arr (t : Tr) : Rtr (.agg t.arr) = some (encTr t, []) := rfl
theorem Rtr_inv {v : Value} {t : Tr} {ps : List MemPlace} (h : Rtr v = some (encTr t, ps)) : v = .agg t.arr := by
  unfold Rtr at h
  split at h
  · rename_i cs
    split at h
    · rename_i a b c d e
      simp [encTr] at h
      obtain ⟨⟨rfl, rfl, rfl, rfl⟩, rfl⟩ := h
      congr 1
      exact Array.toList_inj.1 e
    · cases h
  · cases h
/-- the map of tracks -/
structure Trk (P : Program) (K : TypeId) (w : World) (b n : Nat) (tr : Int → Tr) (D : DataW Unit) : Prop where
  own : w.ownsMap P K Rtr b n D
  at_ : ∀ q : Int, D.atKey (.int .i64 q) (encTr Tr.zero) = encTr (tr q)
theorem isMap_of_own {P : Program} {K : TypeId} {R : Value → Option (DataW Unit × List MemPlace)} {w : World} {b n : Nat} {D : DataW Unit} (h : w.ownsMap P K R b n D) : Maps.IsMap D := by
  obtain ⟨es, clock, _, _, _, rfl⟩ := h
  exact ⟨_, rfl⟩
theorem Trk.put {P : Program} {K : TypeId} {w w' : World} {b n m : Nat} {tr : Int → Tr} {D : DataW Unit} (h : Trk P K w b n tr D) (x : Ev) (h' : w'.ownsMap P K Rtr b m (D.put (.int .i64 x.task) (encTr ((tr x.task).next x)))) : Trk P K w' b m (stepF tr x) (D.put (.int .i64 x.task) (encTr ((tr x.task).next x))) := by
  refine ⟨h', fun q => ?_⟩
  unfold stepF
  by_cases hq : q = x.task
  · subst hq
    rw [if_pos rfl, Maps.atKey_put_same (isMap_of_own h.own) (by trivial)]
  · rw [if_neg hq, Maps.atKey_put_other (by intro e; injection e with _ e; exact hq e)]
    exact h.at_ q
end Go.Fw
namespace Go.Proofs.Ytbjibpghbaemfaa
open Go.RowKit Go.Fw Go.Shelf
set_option maxHeartbeats 2000000
set_option maxRecDepth 4000
set_option linter.unusedVariables false
set_option linter.unusedSimpArgs false
theorem rowTr : RowT Try.prog 62 4 := ⟨by kernel_rfl, by kernel_rfl, by kernel_rfl⟩
theorem right_any (l : List Ev) (A : Option Addr) (c n : Nat) (w : World) (ho : ∀ e ∈ l, EvOk e) (hr : Reads w w.heap.size 34 A n (evs l)) (hl : n ≤ 100000) :
    Calls Try.prog 8 #[.slice A n c] w fun e w' => e = .returned (.bool (rightP l)) ∧ Below w.heap.size w w' := by
  have hn := ev_len ho hr
  have HN := Lib.hid hn
  have HO := Lib.hid ho
  have hmm := @run_makeMap Try.prog
  have hz : ∀ w, (zeroValue 62).run Try.prog w = .ok (.agg Tr.zero.arr) w := fun w => by kernel_rfl
  have HZ := Lib.hid hz
  have hm0 := World.ownsMap_made (H := Unit) w Try.prog 3 Rtr
  clear hn ho hz
  go_enter Try.func8, Try.ntmps8
  go_wp2
  clear hmm
  go_loopw [10] (fun i wr => ∃ (k : Nat), k ≤ n ∧ i = .int .i64 k ∧ Hid (∃ D tr, Trk Try.prog 3 wr w.heap.size k tr D ∧ rightP l = rightF tr (l.drop k) ∧ (∀ q, 0 ≤ (tr q).nth ∧ (tr q).nth ≤ k) ∧ Below w.heap.size w wr)) (fun i _ => n - (intOf i).toNat)
  case atStart => exact ⟨0, Nat.zero_le _, rfl, Lib.hid ⟨_, fun _ => Tr.zero, ⟨hm0, fun q => rfl⟩, rfl, fun q => by simp [Tr.zero], sub_alloc (Below.refl _ _) _⟩⟩
  case round =>
    obtain ⟨k, hk, rfl, HW⟩ := hrel
    clear hm0
    obtain ⟨D, tr, hT, hR, hB, hb⟩ := HW.out
    by_cases hlt : k < n
    · have hkl : k < l.length := by have := HN.out; omega
      obtain ⟨b, o, rfl, _, hc⟩ := ev_at HO.out (hr.below hb) hkl
      have hx := HO.out _ (List.getElem_mem hkl)
      have hcons := rightF_cons (tr := tr) hkl
      generalize l[k] = x at *
      rw [hcons] at hR
      have hcl := at_cells hc
      have c1 := new_cell (w := wr) (t := 58) hx.c1
      have hkey : keyOf Try.prog 3 (.int .i64 x.task) = some (.int .i64 x.task) := Maps.keyOf_int_mk Try.underlying3 (by have := hx.taskIn; unfold In64 at this; simpa [Lit.wf, IntKind.min, IntKind.max, IntKind.signed, IntKind.bits] using this)
      obtain ⟨v, ps, hlk, hv⟩ := (hT.own.alloc (.cells x.cs 58)).lookup (Maps.int_keyed Try.underlying3) Try.underlying60 (HZ.out _) (Rtr_arr Tr.zero) hkey
      rw [hT.at_] at hv
      obtain rfl := Rtr_inv hv
      have HALL := Lib.hid (And.intro hx.size (And.intro hx.all (And.intro hcl (And.intro hT (And.intro hR (And.intro hB (And.intro hb (And.intro hx hkey))))))))
      have HR := Lib.hid hr
      have htb := hB x.task
      clear hc hcl hcons hT hR hB hb hx hv hkey HW hr
      have hlen : (k : Int) < (n : Int) := by omega
      have hB5 := (Blk.new_at wr 58 x.cs rfl).alloc (.cells (tr x.task).arr 62)
      have hB6 := Blk.new_at (wr.alloc (.cells x.cs 58)) 62 (tr x.task).arr (g := wr.heap.size + 1) (by simp)
      have c12 := (hB5.cell 1).trans HALL.out.2.2.2.2.2.2.2.1.c1
      have HB5 := Lib.hid (And.intro hB5 (And.intro hB6 (blk_cells hB5)))
      clear hB5 hB6
      have HARR := Lib.hid (show (tr x.task).arr.size = 4 ∧ ((tr x.task).arr.all fun v => v.oneCell') = true from ⟨rfl, by simp [Tr.arr, Value.oneCell']⟩)
      have hgd : goodB tr x = ((decide (0 ≤ x.task) && decide (x.task < 32)) && (tr x.task).ok x) := rfl
      have HGD := Lib.hid hgd
      clear hgd
      have hbel : Below w.heap.size w ((wr.alloc (.cells x.cs 58)).alloc (.cells (tr x.task).arr 62)) := sub_alloc (sub_alloc HALL.out.2.2.2.2.2.2.1 _) _
      have HBEL := Lib.hid hbel
      clear hbel
      by_cases h0 : x.task < 0
      · go_wp2_with (first | (refine wpList_load_at rowT rfl (.tmp 12) rfl ⟨b, o + k * 34, none⟩ (by rfl) x.cs HALL.out.1 HALL.out.2.2.1 ?_) | (refine wpList_alloc_row rowT rfl rfl ?_) | (refine wpList_alloc_row rowTr rfl rfl ?_) | (refine wpList_store_new rowT rfl (.tmp 5) (.tmp 13) rfl _ rfl (by rfl) x.cs _ (by rfl) _ HALL.out.1 rowT.zc_size HALL.out.2.1 ?_) | (refine wpList_store_new rowTr rfl (.tmp 6) (.tmp 17) rfl _ rfl (by rfl) (tr x.task).arr _ (by rfl) _ HARR.out.1 rowTr.zc_size HARR.out.2 ?_))
        go_ret
        refine ⟨ret_b ?_, HBEL.out⟩
        rw [HALL.out.2.2.2.2.1, HGD.out]
        simp; omega
      · by_cases h1 : 32 ≤ x.task
        · go_wp2_with (first | (refine wpList_load_at rowT rfl (.tmp 12) rfl ⟨b, o + k * 34, none⟩ (by rfl) x.cs HALL.out.1 HALL.out.2.2.1 ?_) | (refine wpList_alloc_row rowT rfl rfl ?_) | (refine wpList_alloc_row rowTr rfl rfl ?_) | (refine wpList_store_new rowT rfl (.tmp 5) (.tmp 13) rfl _ rfl (by rfl) x.cs _ (by rfl) _ HALL.out.1 rowT.zc_size HALL.out.2.1 ?_) | (refine wpList_store_new rowTr rfl (.tmp 6) (.tmp 17) rfl _ rfl (by rfl) (tr x.task).arr _ (by rfl) _ HARR.out.1 rowTr.zc_size HARR.out.2 ?_))
          go_ret
          refine ⟨ret_b ?_, HBEL.out⟩
          rw [HALL.out.2.2.2.2.1, HGD.out]
          simp; omega
        · go_wp2_with (first | (refine wpList_load_at rowT rfl (.tmp 12) rfl ⟨b, o + k * 34, none⟩ (by rfl) x.cs HALL.out.1 HALL.out.2.2.1 ?_) | (refine wpList_alloc_row rowT rfl rfl ?_) | (refine wpList_alloc_row rowTr rfl rfl ?_) | (refine wpList_store_new rowT rfl (.tmp 5) (.tmp 13) rfl _ rfl (by rfl) x.cs _ (by rfl) _ HALL.out.1 rowT.zc_size HALL.out.2.1 ?_) | (refine wpList_store_new rowTr rfl (.tmp 6) (.tmp 17) rfl _ rfl (by rfl) (tr x.task).arr _ (by rfl) _ HARR.out.1 rowTr.zc_size HARR.out.2 ?_) | (refine wpList_load_if rowT (by rfl) (.tmp 5) rfl ⟨wr.heap.size, 0, none⟩ (by rfl) x.cs HALL.out.1 HB5.out.2.2 ?_))
          refine (follows_any (tr x.task) x (wr.heap.size + 1) _ HALL.out.2.2.2.2.2.2.2.1 HB5.out.2.1 (by omega)).mono ?_
          rintro e w1 ⟨rfl, hb1, hK1⟩
          have hgd : goodB tr x = (tr x.task).ok x := by
            rw [HGD.out]
            simp; omega
          have hbel1 : Below w.heap.size w w1 := HBEL.out.trans (hK1.below (B := w.heap.size) HBEL.out.size fun j hj => by have := HALL.out.2.2.2.2.2.2.1.size; omega)
          have hbx1 := hK1.blk HB5.out.1 (by omega)
          have HG := Lib.hid (And.intro hgd (And.intro hbel1 (And.intro (blk_cells hb1) (And.intro hK1 hbx1))))
          have e1 := (hbx1.cell 1).trans HALL.out.2.2.2.2.2.2.2.1.c1
          clear hgd hbel1 hb1 hK1 hbx1 c1 c12 hlk
          cases hk9 : (tr x.task).ok x with
          | false =>
            go_wp2
            go_ret
            refine ⟨ret_b ?_, HG.out.2.1⟩
            rw [HALL.out.2.2.2.2.1, HG.out.1, hk9]
            rfl
          | true =>
            have ht1 := HALL.out.2.2.2.1.own.alloc (.cells x.cs 58)
            have ht2 := ht1.alloc (.cells (tr x.task).arr 62)
            have hmlt := HALL.out.2.2.2.1.own.lt
            have ht3 : w1.ownsMap Try.prog 3 Rtr w.heap.size k D := by
              obtain ⟨es, clock, he, q1, q2, q3⟩ := ht2
              exact ⟨es, clock, (HG.out.2.2.2.1.block _ (by simp; omega) (by omega)).trans he, q1, q2, q3⟩
            have HT3 := Lib.hid ht3
            clear ht1 ht2 ht3
            go_wp2_with (first | (refine wpList_load_at rowTr rfl (.tmp 6) rfl ⟨wr.heap.size + 1, 0, none⟩ (by rfl) ((tr x.task).next x).arr rfl HG.out.2.2.1 ?_) | (at_mapUpdate; refine wpList_mapUpdate_own _ rfl _ _ _ 60 rfl 3 62 (Maps.int_keyed Try.underlying3) Try.underlying60 Rtr w.heap.size k D rfl HT3.out (by unfold maxLen; omega) _ _ (.int .i64 x.task) rfl rfl HALL.out.2.2.2.2.2.2.2.2 (encTr ((tr x.task).next x)) [] (Rtr_arr _) ?_; intro w2 hown2 hgrow2))
            go_roundw
            case rel => exact ⟨k + 1, by omega, by go_num, Lib.hid ⟨_, stepF tr x, HALL.out.2.2.2.1.put x hown2, by rw [HALL.out.2.2.2.2.1, HG.out.1, hk9]; rfl, fun q => stepF_bd HALL.out.2.2.2.2.2.1 x q, HG.out.2.1.grown hgrow2 HG.out.2.1.size (fun j hj => by injection hj with hj; omega)⟩⟩
            case measure => simp [intOf]; omega
    · obtain rfl : k = n := by omega
      have hf : l.drop k = [] := List.drop_eq_nil_of_le (by have := HN.out; omega)
      rw [hf] at hR
      have HR2 := Lib.hid (And.intro hR hb)
      clear hR hb hT hB hf
      go_wp2
      go_ret
      exact ⟨ret_b (by rw [HR2.out.1]; rfl), HR2.out.2⟩
end Go.Proofs.Ytbjibpghbaemfaa
