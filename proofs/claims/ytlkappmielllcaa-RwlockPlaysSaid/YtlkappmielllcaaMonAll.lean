/-
  Monitor's Sleeping, WakeAll, Idle. Conditions: few who sleep or wait.
-/
import Derived.Test.YtlkappmielllcaaMonWalk
namespace Go.Fw
open Go.RowKit
set_option linter.unusedVariables false
theorem Keep.ownL {L : Nat → Prop} {w w' : World} (h : Keep L w w') {B s n : Nat} {e : TypeId} {v : Value} {xs : List Value} (hv : w.ownsRow B e s v n xs) (hL : ∀ k, v.ownBlock = some k → ¬ L k) : w'.ownsRow B e s v n xs := by
  refine ⟨hv.1, ?_⟩
  rcases hv.2 with h2 | ⟨g, cap, cur, rfl, hB, hh, h3⟩
  · exact .inl h2
  · exact .inr ⟨g, cap, cur, rfl, hB, (h.block g (Blk.lt (t := e) (cs := cur) hh) (hL g rfl)).trans hh, h3⟩
theorem own_empty {w : World} {B g : Nat} {e : TypeId} {s : Nat} (h : Blk w g e #[]) (hB : B ≤ g) : w.ownsRow B e s (.slice (some ⟨g, 0, none⟩) 0 0) 0 [] := by
  have := own_of_blk (s := s) (n := 0) h hB (by simp) (by simp [maxLen])
  simpa using this
theorem wakeL_ok (zs : List Int) : ∀ {l : Lk}, l.ok → (wakeL l zs).ok ∧ (wakeL l zs).line.length ≤ l.line.length + zs.length := by
  induction zs with
  | nil => intro l h; exact ⟨h, Nat.le_refl _⟩
  | cons t zs ih =>
    intro l h
    obtain ⟨h1, h2⟩ := ih (askL_ok t true h)
    have := askL_len l t true
    refine ⟨h1, ?_⟩
    show (wakeL (askL l t true).1 zs).line.length ≤ _
    simp only [List.length_cons]
    omega
end Go.Fw
namespace Go.Proofs.Ytlkappmielllcaa
open Go.RowKit Go.Fw
set_option maxHeartbeats 1000000
set_option maxRecDepth 4000
set_option linter.unusedVariables false
set_option linter.unusedSimpArgs false

theorem clone_any (xs : List Int) (A : Option Addr) (c n : Nat) (w : World) (hr : Reads w w.heap.size 1 A n (i64s xs)) (hn : n ≤ 100000) :
    Calls Try.prog 34 #[.slice A n c] w fun e w' => ∃ v, e = .returned v ∧ MineS 1 w w' 3 v n (i64s xs) := by
  rcases A with _ | ad
  · have h0 : n = 0 := by
      rcases Nat.eq_zero_or_pos n with h0 | h0
      · exact h0
      · obtain ⟨ad, h, _⟩ := hr.2 h0
        cases h
    subst h0
    have hx : i64s xs = [] := List.eq_nil_of_length_eq_zero (by simpa using hr.1)
    rw [hx]
    clear hr hx
    have he : ∀ w, (binOp .eql 33 (.slice none 0 c) (.slice none 0 0)).run Try.prog w = .ok (.bool true) w := fun w => by kernel_rfl
    go_enter Try.func34, Try.ntmps34
    go_wp2
    go_ret
    exact ⟨_, rfl, MineS.nil_ 1 w 3⟩
  · have hb := Blk.new_at w 3 #[] (g := w.heap.size) rfl
    have ho := own_empty (B := w.heap.size) (s := 1) hb (Nat.le_refl _)
    have hr2 := hr.alloc (Nat.le_refl _) (.cells #[] 3)
    obtain ⟨i, hi, hz, hsz, hby⟩ := info_parts elemInt.info
    have h1 := i64s_one xs
    have he : ∀ w, (binOp .eql 33 (.slice (some ad) n c) (.slice none 0 0)).run Try.prog w = .ok (.bool false) w := fun w => by kernel_rfl
    go_enter Try.func34, Try.ntmps34
    go_wp2_with (at_builtin; go_must (refine wpList_append_any (w.alloc (.cells #[] 3)) rfl (.tmp 5) (.tmp 6) _ rfl w.heap.size 3 i (.int .i64 0) 1 8 elemInt.under hi hz hsz hby rfl (by decide) _ 0 [] rfl ho w.heap.size (some ad) n c (i64s xs) rfl hr2 h1 (by unfold maxLen; omega) (by omega) (by simp) ?_); intro v' w' hm' hg' _)
    go_ret
    refine ⟨v', rfl, by simpa using hm', ?_⟩
    exact (sub_alloc (Below.refl _ w) (.cells #[] 3)).grown hg' (by simp) fun k hk => (ho.lt k hk).1
theorem sleeping_nil (w : World) : Calls Try.prog 22 #[.pointer none] w fun e w' => e = .returned (.slice none 0 0) ∧ w = w' := by
  go_enter Try.func22, Try.ntmps22
  go_wp2
  go_ret
  exact ⟨rfl, rfl⟩
theorem sleeping_any (p B : Nat) (sl al : Value) (l : Lk) (zs : List Int) (w : World) (h : MonAt w p B sl al l zs) (hn : zs.length ≤ 900) :
    Calls Try.prog 22 #[.pointer (some ⟨p, 0, none⟩)] w fun e w' => ∃ v, e = .returned v ∧ MineS 1 w w' 3 v zs.length (i64s zs) := by
  have g3 := h.c3
  obtain ⟨A, c, rfl, _, _, hr⟩ := h.2.form
  clear h
  go_enter Try.func22, Try.ntmps22
  go_wp2_with fail
  refine (clone_any zs A c zs.length w hr (by omega)).mono ?_
  rintro e w2 ⟨v, rfl, hm⟩
  go_wp2
  go_ret
  exact ⟨v, rfl, hm⟩
theorem idle_nil (w : World) : Calls Try.prog 23 #[.pointer none] w fun e w' => e = .returned (.bool true) ∧ w = w' := by
  go_enter Try.func23, Try.ntmps23
  go_wp2
  go_ret
  exact ⟨rfl, rfl⟩
theorem idle_any (p B : Nat) (sl al : Value) (l : Lk) (zs : List Int) (w : World) (h : MonAt w p B sl al l zs) (hl : l.ok) (hf : freeB l = true) (hn : l.line.length = 0) :
    Calls Try.prog 23 #[.pointer (some ⟨p, 0, none⟩)] w fun e w' => e = .returned (.bool true) ∧ Below w.heap.size w w' := by
  have h1 := free_any p B _ _ sl l w h.1 hl
  rw [hf] at h1
  have H1 := Lib.hid h1
  clear h1
  go_enter Try.func23, Try.ntmps23
  go_wp2_with fail
  refine H1.out.mono ?_
  rintro e w2 ⟨rfl, m, rfl⟩
  have h2 := waiting_any p B _ _ sl l (w.drewN m) h.1 (by omega)
  rw [hn] at h2
  have H2 := Lib.hid h2
  clear h2
  go_wp2_with fail
  refine H2.out.mono ?_
  rintro e w3 ⟨v, rfl, hm⟩
  obtain ⟨A, c, rfl, _, _, _⟩ := hm.form
  go_wp2
  go_ret
  exact ⟨rfl, sub_trans (sub_drewN (Below.refl _ w) m) hm.below⟩
theorem wakeAll_nil (w : World) : Calls Try.prog 21 #[.pointer none] w fun e w' => e = .returned (.slice none 0 0) ∧ w = w' := by
  go_enter Try.func21, Try.ntmps21
  go_wp2_with fail
  refine (sleeping_nil w).mono ?_
  rintro e w2 ⟨rfl, rfl⟩
  go_wp2
  go_loop [3, 9] (fun v i => v = .slice none 0 0 ∧ i = .int .i64 0) (fun _ _ => 0)
  case atStart => exact ⟨rfl, rfl⟩
  case round =>
    obtain ⟨rfl, rfl⟩ := hrel
    go_wp2
    go_ret
    exact ⟨rfl, rfl⟩
theorem foldl_snoc (f : Lk → Int → Lk) (l : Lk) (a : List Int) (t : Int) : (a ++ [t]).foldl f l = f (a.foldl f l) t := by simp
theorem MonAt.grownOut {w w' : World} {p B B' n : Nat} {sl al v : Value} {l : Lk} {zs : List Int} {xs : List Value} (h : MonAt w p B sl al l zs) (hg : w.grownBy w' v.ownBlock) (ho : w.ownsRow B' 3 1 v n xs) (hp : p < B') (hal : ∀ k, al.ownBlock = some k → k < B') : MonAt w' p B sl al l zs :=
  ⟨h.1.grown hg ho hp, h.2.turn fun k hk => hg.block k (h.2.lt k hk).2 fun e => by have := (ho.lt k e.symm).1; have := hal k hk; omega⟩
theorem wakeAll_any (p B : Nat) (sl al : Value) (l : Lk) (zs : List Int) (w : World) (h : MonAt w p B sl al l zs) (hl : l.ok) (hn : l.line.length ≤ 100) (hz : zs.length ≤ 100) (hBw : B ≤ w.heap.size) (hBp : B ≤ p) (ht : Small zs) :
    Calls Try.prog 21 #[.pointer (some ⟨p, 0, none⟩)] w fun e w' => ∃ v, e = .returned v ∧ w'.ownsRow w.heap.size 3 1 v zs.length (i64s zs) ∧ ∃ sl' al', MonAt w' p B sl' al' (wakeL l zs) [] ∧ Keep (fun j => B ≤ j) w w' := by
  have HSL := Lib.hid (sleeping_any p B sl al l zs w h (by omega))
  have hal : ∀ k, al.ownBlock = some k → k < w.heap.size := fun k hk => (h.2.lt k hk).2
  have hp := h.1.1.lt
  have HAL := Lib.hid hal
  have HL := Lib.hid hl
  have HT := Lib.hid ht
  clear hl ht
  have HN := Lib.hid hn
  clear hn
  generalize hzn : zs.length = n at *
  have HZN := Lib.hid hzn
  clear hzn
  go_enter Try.func21, Try.ntmps21
  go_wp2_with fail
  refine HSL.out.mono ?_
  rintro e w1 ⟨v1, rfl, hm1⟩
  obtain ⟨A1, c1, rfl, _, _, _⟩ := hm1.form
  have h1 := h.up hm1.below
  have hb1 := hm1.below
  clear hm1
  go_wp2
  go_loopw [3, 9] (fun v i wr => ∃ (k : Nat) (sl' al' : Value), k ≤ n ∧ i = .int .i64 k ∧ wr.ownsRow w.heap.size 3 1 v k (i64s (zs.take k)) ∧ MonAt wr p B sl' al' (wakeL l (zs.take k)) (zs.drop k) ∧ Keep (fun j => B ≤ j) w wr ∧ Hid (al'.ownBlock = al.ownBlock)) (fun _ i _ => n - (intOf i).toNat)
  case atStart =>
    exact ⟨0, sl, al, by omega, rfl, World.ownsRow_nil _ _ _ _, by simpa [wakeL] using h1, Keep.of_below hb1, Lib.hid rfl⟩
  case round =>
    obtain ⟨k, sl', al', hk, rfl, hown, hM, hK, HA⟩ := hrel
    have HM := Lib.hid hM
    have HO := Lib.hid hown
    have HK := Lib.hid hK
    have hszz := hK.size
    clear hM hown hK h h1 hal
    by_cases hlt : k < n
    · have hkl : k < zs.length := by have := HZN.out; omega
      have hdr : zs.drop k = zs[k] :: zs.drop (k + 1) := List.drop_eq_getElem_cons hkl
      have htk : zs.take (k + 1) = zs.take k ++ [zs[k]] := List.take_succ_eq_append_getElem hkl
      have hsm := HT.out k hkl
      generalize zs[k] = t at *
      have HD := Lib.hid hdr
      have HTK := Lib.hid htk
      have HSM := Lib.hid hsm
      obtain ⟨ok1, len1⟩ := wakeL_ok (zs.take k) HL.out
      have HOK := Lib.hid ok1
      have hl9 : (wakeL l (zs.take k)).line.length ≤ 900 := by have := HN.out; simp at len1; omega
      have HL9 := Lib.hid hl9
      have hl8 : (zs.drop (k + 1)).length ≤ 900 := by have := HZN.out; simp; omega
      have HL8 := Lib.hid hl8
      have HM2 : Hid (MonAt wr p B sl' al' (wakeL l (zs.take k)) (t :: zs.drop (k + 1))) := by rw [← HD.out]; exact HM
      clear hdr htk hsm ok1 len1 hl9 hl8 HM
      go_wp2_with fail
      refine (wake_any p B sl' al' _ t _ wr HM2.out HOK.out HL9.out HL8.out (by omega) HSM.out).mono ?_
      rintro e w2 ⟨rfl, sl2, al2, hM3, hK3, hab⟩
      have ho3 := hK3.ownL HO.out fun k hk e => e.elim (fun e => by have := (HO.out.lt k hk).1; omega) fun e => tail_ne_own HM2.out.1.2 HO.out (by decide) k e hk.symm
      have hz3 := hK3.size
      have HM3 := Lib.hid hM3
      have HK3 := Lib.hid hK3
      have HAB := Lib.hid hab
      clear hM3 hK3 hab
      go_wp2_with (at_builtin; go_must (refine wpList_append_oneG elemInt (by decide) rfl (.tmp 16) (.tmp 18) rfl rfl ho3 (by omega) (by simp) rfl rfl (by simp [Value.oneCell']) (by omega) (by unfold maxLen; omega) ?_); intro v' w' hm' hg')
      go_roundw
      case rel =>
        have hM4 := HM3.out.grownOut hg' ho3 hp fun k hk => by rw [HAB.out, HA.out] at hk; exact HAL.out k hk
        refine ⟨k + 1, sl2, al2, by omega, by go_num, ?_, ?_, ?_, Lib.hid (by rw [HAB.out, HA.out])⟩
        · rw [HTK.out]; simpa [i64s] using hm'
        · rw [HTK.out]; unfold wakeL; rw [foldl_snoc]; exact hM4
        · have k3 : Keep (fun j => B ≤ j) wr w2 := HK3.out.more2 fun k e => e.elim (fun e => by omega) fun e => (HM2.out.1.2.lt k e).1
          exact grownK (HK.out.trans k3) hg' (fun _ h => h) fun k e => by have := (ho3.lt k e).1; omega
      case measure => simp [intOf]; omega
    · have hkn : k = n := by omega
      subst hkn
      go_wp2
      go_ret
      have e1 : zs.take k = zs := List.take_of_length_le (by have := HZN.out; omega)
      have e2 : zs.drop k = [] := List.drop_eq_nil_of_le (by have := HZN.out; omega)
      have h1 := HM.out
      have h2 := HO.out
      rw [e1] at h1 h2
      rw [e2] at h1
      exact ⟨_, rfl, h2, sl', al', h1, HK.out⟩
end Go.Proofs.Ytlkappmielllcaa
