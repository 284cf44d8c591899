/-
  Rwlock's Ask. Condition: none.
-/
import Derived.Test.YtlkappmielllcaaRwGive
import Derived.Test.YtlkappmielllcaaOrder
namespace Go.Fw
/-- what comes of asking -/
def askL (l : Lk) (t : Int) (b : Bool) : Lk × Bool × Int :=
  if bitN t = 0 then (l, false, 1)
  else if heldN l t ≠ 0 ∨ t ∈ l.line.map (·.1) then (l, false, 15)
  else if l.line = [] ∧ fitsB l b = true then (giveL l (t, b), true, 0)
  else ({ l with line := l.line ++ [(t, b)] }, false, 0)
theorem drew_alloc (w : World) (o : Obj) : (w.alloc o).drew = w.drew.alloc o := rfl
end Go.Fw
namespace Go.Proofs.Ytlkappmielllcaa
open Go.RowKit Go.Fw
set_option maxHeartbeats 1000000
set_option maxRecDepth 4000
set_option linter.unusedVariables false
set_option linter.unusedSimpArgs false

theorem ask_nil (t : Int) (b : Bool) (w : World) (ht : -9223372036854775808 ≤ t ∧ t ≤ 9223372036854775807) :
    Calls Try.prog 9 #[.pointer none, .int .i64 t, .bool b] w fun e w' => e = .returned (.tuple #[.bool false, .int .i64 1]) ∧ w = w' := by
  go_enter Try.func9, Try.ntmps9
  go_wp2
  go_ret2
  exact ⟨rfl, rfl⟩
theorem LockAt.up {w w' : World} {p B : Nat} {t : TypeId} {rest : List Value} {sl : Value} {l : Lk} (h : LockAt w p B t rest sl l) (hb : Below w.heap.size w w') : LockAt w' p B t rest sl l :=
  ⟨h.1.later hb, h.2.later hb⟩
/-- what Ask leaves -/
def AskPost (w : World) (p B : Nat) (ty : TypeId) (rest : List Value) (sl : Value) (r : Lk × Bool × Int) (e : Ending) (w' : World) : Prop :=
  e = .returned (.tuple #[.bool r.2.1, .int .i64 r.2.2]) ∧ ∃ sl', LockAt w' p B ty rest sl' r.1 ∧ Keep (fun j => j = p ∨ sl.ownBlock = some j) w w'
theorem ask_any (p B : Nat) (ty : TypeId) (rest : List Value) (sl : Value) (l : Lk) (t : Int) (b : Bool) (w : World) (h : LockAt w p B ty rest sl l) (hl : l.ok) (hne : 60 ≠ ty) (hn : l.line.length ≤ 900) (hB : B ≤ w.heap.size) (ht : -9223372036854775808 ≤ t ∧ t ≤ 9223372036854775807) :
    Calls Try.prog 9 #[.pointer (some ⟨p, 0, none⟩), .int .i64 t, .bool b] w (AskPost w p B ty rest sl (askL l t b)) := by
  have hbt := bit_any t w ht
  have hh := held_any p B ty rest sl l t w h hl ht
  have ha : askL l t b = if bitN t = 0 then (l, false, 1) else if heldN l t ≠ 0 ∨ t ∈ tasksL l.line then (l, false, 15) else if l.line = [] ∧ fitsB l b = true then (giveL l (t, b), true, 0) else ({ l with line := l.line ++ [(t, b)] }, false, 0) := rfl
  have HBT := Lib.hid hbt
  have HH := Lib.hid hh
  have HA := Lib.hid ha
  clear hbt hh ha
  have hkeep : ∀ w', Below w.heap.size w w' → Keep (fun j => j = p ∨ sl.ownBlock = some j) w w' := fun w' hb => Keep.of_below hb
  by_cases hb : bitN t = 0
  · have HX : Hid (askL l t b = (l, false, 1)) := by show _ = _; rw [HA.out, if_pos hb]
    have d1 : ((bitN t : Int) == 0) = true := by simp; omega
    generalize bitN t = bb at *
    clear hb
    go_enter Try.func9, Try.ntmps9
    go_wp2_with fail
    refine HBT.out.mono ?_
    rintro e w1 ⟨rfl, rfl⟩
    go_wp2
    go_ret2
    exact ⟨by rw [HX.out]; rfl, sl, by rw [HX.out]; exact h, hkeep _ (Below.refl _ _)⟩
  have d1 : ((bitN t : Int) == 0) = false := by simp; omega
  by_cases hd : heldN l t ≠ 0
  · have HX : Hid (askL l t b = (l, false, 15)) := by show _ = _; rw [HA.out, if_neg hb, if_pos (.inl hd)]
    have d2 : (heldN l t != 0) = true := by simpa using hd
    generalize bitN t = bb at *
    generalize heldN l t = hv at *
    clear hb hd
    go_enter Try.func9, Try.ntmps9
    go_wp2_with fail
    refine HBT.out.mono ?_
    rintro e w1 ⟨rfl, rfl⟩
    go_wp2_with fail
    refine HH.out.mono ?_
    rintro e w1 ⟨rfl, rfl⟩
    go_wp2
    go_ret2
    exact ⟨by rw [HX.out]; rfl, sl, by rw [HX.out]; exact h, hkeep _ (Below.refl _ _)⟩
  have hd0 : heldN l t = 0 := by omega
  have d2 : (heldN l t != 0) = false := by simp [hd0]
  by_cases hi : t ∈ tasksL l.line
  · have HX : Hid (askL l t b = (l, false, 15)) := by show _ = _; rw [HA.out, if_neg hb, if_pos (.inr hi)]
    have HC : Hid (decide (t ∈ tasksL l.line) = true) := Lib.hid (by simpa using hi)
    generalize bitN t = bb at *
    generalize heldN l t = hv at *
    clear hb hd hd0 hi
    go_enter Try.func9, Try.ntmps9
    go_wp2_with fail
    refine HBT.out.mono ?_
    rintro e w1 ⟨rfl, rfl⟩
    go_wp2_with fail
    refine HH.out.mono ?_
    rintro e w1 ⟨rfl, rfl⟩
    go_wp2_with fail
    refine (waiting_any p B ty rest sl l w h (Nat.le_trans hn (by decide))).mono ?_
    rintro e w1 ⟨v, rfl, hm⟩
    obtain ⟨A, c, rfl, _, _, hr⟩ := hm.form
    go_wp2_with fail
    refine (contains_any _ A c l.line.length t w1 hr (by omega)).mono ?_
    rintro e w2 ⟨rfl, rfl⟩
    rw [HC.out]
    go_wp2
    go_ret2
    exact ⟨by rw [HX.out]; rfl, sl, by rw [HX.out]; exact h.up hm.below, hkeep _ hm.below⟩
  have HC : Hid (decide (t ∈ tasksL l.line) = false) := Lib.hid (by simpa using hi)
  have ha2 : askL l t b = if l.line = [] ∧ fitsB l b = true then (giveL l (t, b), true, 0) else ({ l with line := l.line ++ [(t, b)] }, false, 0) := by
    rw [HA.out, if_neg hb, if_neg (fun e => e.elim hd hi)]
  have HA2 := Lib.hid ha2
  generalize bitN t = bb at *
  generalize heldN l t = hv at *
  clear hb hd hd0 hi ha2 HA
  by_cases hz : l.line.length = 0 ∧ fitsB l b = true
  · obtain ⟨hz, hf⟩ := hz
    have HX : Hid (askL l t b = (giveL l (t, b), true, 0)) := by show _ = _; rw [HA2.out, if_pos ⟨List.eq_nil_of_length_eq_zero hz, hf⟩]
    have HF := Lib.hid hf
    have HZ := Lib.hid hz
    clear hf hz
    go_enter Try.func9, Try.ntmps9
    go_wp2_with fail
    refine HBT.out.mono ?_
    rintro e w1 ⟨rfl, rfl⟩
    go_wp2_with fail
    refine HH.out.mono ?_
    rintro e w1 ⟨rfl, rfl⟩
    go_wp2_with fail
    refine (waiting_any p B ty rest sl l w h (Nat.le_trans hn (by decide))).mono ?_
    rintro e w1 ⟨v, rfl, hm⟩
    obtain ⟨A, c, rfl, _, _, hr⟩ := hm.form
    have hb1 := hm.below
    clear hm
    go_wp2_with fail
    refine (contains_any _ A c l.line.length t w1 hr (by omega)).mono ?_
    rintro e w2 ⟨rfl, rfl⟩
    rw [HC.out]
    clear hr
    have hb3 := sub_alloc hb1 (.cells #[.int .i64 t, .bool b] 60)
    have h3 := h.up hb3
    have c2 := (h.up hb1).c2
    have hp2 := (h.up hb1).1.lt
    have hsz := hb1.size
    obtain ⟨A2, k2, rfl, _, _, _⟩ := h3.2.form
    rw [HZ.out] at *
    go_wp2_with fail
    refine (fits_any p B ty rest _ l b _ h3).mono ?_
    rintro e w2 ⟨rfl, rfl⟩
    rw [HF.out]
    go_wp2_with fail
    refine (give_any p B ty rest _ l (t, b) _ h3 hl hne ht).mono ?_
    rintro e w4 ⟨rfl, h4, hK4⟩
    go_wp2
    go_ret2
    exact ⟨by rw [HX.out]; rfl, _, by rw [HX.out]; exact h4, (Keep.of_below hb3).trans (Keep.more2 hK4 fun _ h => .inl h)⟩
  · have HX : Hid (askL l t b = ({ l with line := l.line ++ [(t, b)] }, false, 0)) := by
      show _ = _
      rw [HA2.out, if_neg fun e => hz ⟨by rw [e.1]; rfl, e.2⟩]
    by_cases hz0 : l.line.length = 0
    · have hf : fitsB l b = false := by
        cases hfb : fitsB l b
        · rfl
        · exact absurd ⟨hz0, hfb⟩ hz
      have HF := Lib.hid hf
      have HZ := Lib.hid hz0
      clear hf hz hz0
      go_enter Try.func9, Try.ntmps9
      go_wp2_with fail
      refine HBT.out.mono ?_
      rintro e w1 ⟨rfl, rfl⟩
      go_wp2_with fail
      refine HH.out.mono ?_
      rintro e w1 ⟨rfl, rfl⟩
      go_wp2_with fail
      refine (waiting_any p B ty rest sl l w h (Nat.le_trans hn (by decide))).mono ?_
      rintro e w1 ⟨v, rfl, hm⟩
      obtain ⟨A, c, rfl, _, _, hr⟩ := hm.form
      have hb1 := hm.below
      clear hm
      go_wp2_with fail
      refine (contains_any _ A c l.line.length t w1 hr (by omega)).mono ?_
      rintro e w2 ⟨rfl, rfl⟩
      rw [HC.out]
      clear hr
      have hb3 := sub_alloc hb1 (.cells #[.int .i64 t, .bool b] 60)
      have h3 := h.up hb3
      have c2 := (h.up hb1).c2
      have hp2 := (h.up hb1).1.lt
      have hsz := hb1.size
      obtain ⟨A2, k2, rfl, _, _, _⟩ := h3.2.form
      have d3 : ((l.line.length : Int) == 0) = true := by rw [HZ.out]; rfl
      go_wp2_with fail
      refine (fits_any p B ty rest _ l b _ h3).mono ?_
      rintro e w2 ⟨rfl, rfl⟩
      rw [HF.out]
      go_wp2
      have hT3 : TailRow (w1.drew.alloc (.cells #[.int .i64 t, .bool b] 60)) B 60 2 _ l.line.length (lineV l.line) := h3.2
      have hP3 : Blk (w1.drew.alloc (.cells #[.int .i64 t, .bool b] 60)) p ty _ := h3.1
      have hnp := h3.2.ne h3.1 hne
      have hn9 : l.line.length ≤ 900 := hn
      have hBs : B ≤ (w1.drew.alloc (.cells #[.int .i64 t, .bool b] 60)).heap.size := by show B ≤ (w1.alloc _).heap.size; rw [World.size_alloc]; omega
      refine ord_start (by kernel_rfl) ?_
      simp only [List.length_cons, List.length_nil, Nat.reduceAdd, List.size_toArray]
      refine ord_pure 0 (v := ?_) rfl (by kernel_rfl) (by intro _ _ _ h; exact h) (by rfl) (fun W => ?_) ?_
      rotate_left
      · first | (go_simp; done) | (go_simp; with_reducible rfl)
      try simp only [Act.put, List.setIfInBounds_toArray, List.set_cons_zero, List.set_cons_succ]
      refine ord_pure 1 (v := ?_) rfl (by kernel_rfl) (by intro _ _ _ h; exact h) (by rfl) (fun W => ?_) ?_
      rotate_left
      · first | (go_simp; done) | (go_simp; with_reducible rfl)
      try simp only [Act.put, List.setIfInBounds_toArray, List.set_cons_zero, List.set_cons_succ]
      refine ord_pure 2 (v := ?_) rfl (by kernel_rfl) (by intro _ _ _ h; exact h) (by rfl) (fun W => ?_) ?_
      rotate_left
      · first | (go_simp; done) | (go_simp; with_reducible rfl)
      try simp only [Act.put, List.setIfInBounds_toArray, List.set_cons_zero, List.set_cons_succ]
      refine ord_pure 3 (v := ?_) rfl (by kernel_rfl) (by intro _ _ _ h; exact h) (by rfl) (fun W => ?_) ?_
      rotate_left
      · first | (go_simp; done) | (go_simp; with_reducible rfl)
      try simp only [Act.put, List.setIfInBounds_toArray, List.set_cons_zero, List.set_cons_succ]
      refine ord_ready (rs := [4, 5]) (by kernel_rfl) (by simp) ?_
      refine ord_next rfl (by rfl) (fun K hK => ?_) ?_
      · skip
        go_simp
        refine hK _ _ ?_
        clear hK
        try simp only [Act.put, List.setIfInBounds_toArray, List.set_cons_zero, List.set_cons_succ]
        refine ord_ready (rs := [5]) (by kernel_rfl) (by simp) ?_
        refine ord_next rfl (by rfl) (fun K hK => ?_) ?_
        rotate_left
        · exact AllReady.nil
        go_simp
        refine hK _ _ ?_
        clear hK
        try simp only [Act.put, List.setIfInBounds_toArray, List.set_cons_zero, List.set_cons_succ]
        refine ord_ready (rs := [6]) (by kernel_rfl) (by simp) ?_
        refine ord_next rfl (by rfl) (fun K hK => ?_) ?_
        rotate_left
        · exact AllReady.nil
        go_simp
        refine hK _ _ ?_
        clear hK
        try simp only [Act.put, List.setIfInBounds_toArray, List.set_cons_zero, List.set_cons_succ]
        refine ord_ready (rs := [7]) (by kernel_rfl) (by simp) ?_
        refine ord_next rfl (by rfl) (fun K hK => ?_) ?_
        rotate_left
        · exact AllReady.nil
        try simp only [drew_alloc]
        refine wp_append_T (w := w1.drew.alloc (.cells #[.int .i64 t, .bool b] 60)) (n := l.line.length) (xs := lineV l.line) (B := B) (g := w1.heap.size + 1) (v := .slice A2 l.line.length k2) elemWantL (by decide) (.tmp 49) (.tmp 51) rfl (by rfl) hT3 hBs (by simp) (by rfl) rfl (by simp [Value.oneCell']) (by omega) (by unfold maxLen; omega) ?_
        intro v' w' hT' hg' hlt'
        obtain ⟨A3, k3, rfl, _, _, _⟩ := hT'.form
        refine hK _ _ ?_
        have hP' := hP3.grown hg' (Ne.symm hnp)
        have f2 := hP'.frozen 2
        have kk2 := hP'.cell 2
        simp at kk2
        clear hK
        try simp only [Act.put, List.setIfInBounds_toArray, List.set_cons_zero, List.set_cons_succ]
        refine ord_pure 8 (v := ?_) rfl (by kernel_rfl) (by intro _ _ _ h; exact h) (by rfl) (fun W => ?_) ?_
        rotate_left
        · first | (go_simp; done) | (go_simp; with_reducible rfl)
        try simp only [Act.put, List.setIfInBounds_toArray, List.set_cons_zero, List.set_cons_succ]
        refine ord_pure 9 (v := ?_) rfl (by kernel_rfl) (by intro _ _ _ h; exact h) (by rfl) (fun W => ?_) ?_
        rotate_left
        · first | (go_simp; done) | (go_simp; with_reducible rfl)
        try simp only [Act.put, List.setIfInBounds_toArray, List.set_cons_zero, List.set_cons_succ]
        refine ord_ready (rs := [10]) (by kernel_rfl) (by simp) ?_
        refine ord_next rfl (by rfl) (fun K hK => ?_) ?_
        rotate_left
        · exact AllReady.nil
        go_simp
        refine hK _ _ ?_
        clear hK
        try simp only [Act.put, List.setIfInBounds_toArray, List.set_cons_zero, List.set_cons_succ]
        refine ord_done (by kernel_rfl) ?_
        go_wp2
        go_ret2
        have hK2 : Keep (fun j => j = p ∨ (Value.slice A2 l.line.length k2).ownBlock = some j) w _ := grownK (w1 := w1.drew.alloc (.cells #[.int .i64 t, .bool b] 60)) ((Keep.of_below (L := fun _ => False) hb1).drew.alloc _) hg' (fun _ h => h.elim) (fun k e => .inr e)
        refine ⟨by rw [HX.out]; rfl, .slice A3 (l.line.length + 1) k3, ?_, ?_⟩
        · rw [HX.out]
          refine ⟨by have hq := hP'.set_ 2 (.slice A3 (l.line.length + 1) k3); simpa using hq, ?_⟩
          have hq := hT'.turn (w' := w'.setCell ⟨p, 2, none⟩ (.slice A3 (l.line.length + 1) k3)) fun k hk => Below.heap_setCell w' _ _ k fun e => hT'.ne hP' hne (by rw [hk, e])
          simpa [lineV, wantC] using hq
        · exact hK2.setCell (p := ⟨p, 2, none⟩) (.inl (.inl rfl)) _
      refine ord_next rfl (by rfl) (fun K hK => ?_) ?_
      · skip
        go_simp
        refine hK _ _ ?_
        clear hK
        try simp only [Act.put, List.setIfInBounds_toArray, List.set_cons_zero, List.set_cons_succ]
        refine ord_ready (rs := [4, 6]) (by kernel_rfl) (by simp) ?_
        refine ord_next rfl (by rfl) (fun K hK => ?_) ?_
        · skip
          go_simp
          refine hK _ _ ?_
          clear hK
          try simp only [Act.put, List.setIfInBounds_toArray, List.set_cons_zero, List.set_cons_succ]
          refine ord_ready (rs := [6]) (by kernel_rfl) (by simp) ?_
          refine ord_next rfl (by rfl) (fun K hK => ?_) ?_
          rotate_left
          · exact AllReady.nil
          go_simp
          refine hK _ _ ?_
          clear hK
          try simp only [Act.put, List.setIfInBounds_toArray, List.set_cons_zero, List.set_cons_succ]
          refine ord_ready (rs := [7]) (by kernel_rfl) (by simp) ?_
          refine ord_next rfl (by rfl) (fun K hK => ?_) ?_
          rotate_left
          · exact AllReady.nil
          try simp only [drew_alloc]
          refine wp_append_T (w := w1.drew.alloc (.cells #[.int .i64 t, .bool b] 60)) (n := l.line.length) (xs := lineV l.line) (B := B) (g := w1.heap.size + 1) (v := .slice A2 l.line.length k2) elemWantL (by decide) (.tmp 49) (.tmp 51) rfl (by rfl) hT3 hBs (by simp) (by rfl) rfl (by simp [Value.oneCell']) (by omega) (by unfold maxLen; omega) ?_
          intro v' w' hT' hg' hlt'
          obtain ⟨A3, k3, rfl, _, _, _⟩ := hT'.form
          refine hK _ _ ?_
          have hP' := hP3.grown hg' (Ne.symm hnp)
          have f2 := hP'.frozen 2
          have kk2 := hP'.cell 2
          simp at kk2
          clear hK
          try simp only [Act.put, List.setIfInBounds_toArray, List.set_cons_zero, List.set_cons_succ]
          refine ord_pure 8 (v := ?_) rfl (by kernel_rfl) (by intro _ _ _ h; exact h) (by rfl) (fun W => ?_) ?_
          rotate_left
          · first | (go_simp; done) | (go_simp; with_reducible rfl)
          try simp only [Act.put, List.setIfInBounds_toArray, List.set_cons_zero, List.set_cons_succ]
          refine ord_pure 9 (v := ?_) rfl (by kernel_rfl) (by intro _ _ _ h; exact h) (by rfl) (fun W => ?_) ?_
          rotate_left
          · first | (go_simp; done) | (go_simp; with_reducible rfl)
          try simp only [Act.put, List.setIfInBounds_toArray, List.set_cons_zero, List.set_cons_succ]
          refine ord_ready (rs := [10]) (by kernel_rfl) (by simp) ?_
          refine ord_next rfl (by rfl) (fun K hK => ?_) ?_
          rotate_left
          · exact AllReady.nil
          go_simp
          refine hK _ _ ?_
          clear hK
          try simp only [Act.put, List.setIfInBounds_toArray, List.set_cons_zero, List.set_cons_succ]
          refine ord_done (by kernel_rfl) ?_
          go_wp2
          go_ret2
          have hK2 : Keep (fun j => j = p ∨ (Value.slice A2 l.line.length k2).ownBlock = some j) w _ := grownK (w1 := w1.drew.alloc (.cells #[.int .i64 t, .bool b] 60)) ((Keep.of_below (L := fun _ => False) hb1).drew.alloc _) hg' (fun _ h => h.elim) (fun k e => .inr e)
          refine ⟨by rw [HX.out]; rfl, .slice A3 (l.line.length + 1) k3, ?_, ?_⟩
          · rw [HX.out]
            refine ⟨by have hq := hP'.set_ 2 (.slice A3 (l.line.length + 1) k3); simpa using hq, ?_⟩
            have hq := hT'.turn (w' := w'.setCell ⟨p, 2, none⟩ (.slice A3 (l.line.length + 1) k3)) fun k hk => Below.heap_setCell w' _ _ k fun e => hT'.ne hP' hne (by rw [hk, e])
            simpa [lineV, wantC] using hq
          · exact hK2.setCell (p := ⟨p, 2, none⟩) (.inl (.inl rfl)) _
        refine ord_next rfl (by rfl) (fun K hK => ?_) ?_
        · skip
          go_simp
          refine hK _ _ ?_
          clear hK
          try simp only [Act.put, List.setIfInBounds_toArray, List.set_cons_zero, List.set_cons_succ]
          refine ord_ready (rs := [4]) (by kernel_rfl) (by simp) ?_
          refine ord_next rfl (by rfl) (fun K hK => ?_) ?_
          rotate_left
          · exact AllReady.nil
          go_simp
          refine hK _ _ ?_
          clear hK
          try simp only [Act.put, List.setIfInBounds_toArray, List.set_cons_zero, List.set_cons_succ]
          refine ord_ready (rs := [7]) (by kernel_rfl) (by simp) ?_
          refine ord_next rfl (by rfl) (fun K hK => ?_) ?_
          rotate_left
          · exact AllReady.nil
          try simp only [drew_alloc]
          refine wp_append_T (w := w1.drew.alloc (.cells #[.int .i64 t, .bool b] 60)) (n := l.line.length) (xs := lineV l.line) (B := B) (g := w1.heap.size + 1) (v := .slice A2 l.line.length k2) elemWantL (by decide) (.tmp 49) (.tmp 51) rfl (by rfl) hT3 hBs (by simp) (by rfl) rfl (by simp [Value.oneCell']) (by omega) (by unfold maxLen; omega) ?_
          intro v' w' hT' hg' hlt'
          obtain ⟨A3, k3, rfl, _, _, _⟩ := hT'.form
          refine hK _ _ ?_
          have hP' := hP3.grown hg' (Ne.symm hnp)
          have f2 := hP'.frozen 2
          have kk2 := hP'.cell 2
          simp at kk2
          clear hK
          try simp only [Act.put, List.setIfInBounds_toArray, List.set_cons_zero, List.set_cons_succ]
          refine ord_pure 8 (v := ?_) rfl (by kernel_rfl) (by intro _ _ _ h; exact h) (by rfl) (fun W => ?_) ?_
          rotate_left
          · first | (go_simp; done) | (go_simp; with_reducible rfl)
          try simp only [Act.put, List.setIfInBounds_toArray, List.set_cons_zero, List.set_cons_succ]
          refine ord_pure 9 (v := ?_) rfl (by kernel_rfl) (by intro _ _ _ h; exact h) (by rfl) (fun W => ?_) ?_
          rotate_left
          · first | (go_simp; done) | (go_simp; with_reducible rfl)
          try simp only [Act.put, List.setIfInBounds_toArray, List.set_cons_zero, List.set_cons_succ]
          refine ord_ready (rs := [10]) (by kernel_rfl) (by simp) ?_
          refine ord_next rfl (by rfl) (fun K hK => ?_) ?_
          rotate_left
          · exact AllReady.nil
          go_simp
          refine hK _ _ ?_
          clear hK
          try simp only [Act.put, List.setIfInBounds_toArray, List.set_cons_zero, List.set_cons_succ]
          refine ord_done (by kernel_rfl) ?_
          go_wp2
          go_ret2
          have hK2 : Keep (fun j => j = p ∨ (Value.slice A2 l.line.length k2).ownBlock = some j) w _ := grownK (w1 := w1.drew.alloc (.cells #[.int .i64 t, .bool b] 60)) ((Keep.of_below (L := fun _ => False) hb1).drew.alloc _) hg' (fun _ h => h.elim) (fun k e => .inr e)
          refine ⟨by rw [HX.out]; rfl, .slice A3 (l.line.length + 1) k3, ?_, ?_⟩
          · rw [HX.out]
            refine ⟨by have hq := hP'.set_ 2 (.slice A3 (l.line.length + 1) k3); simpa using hq, ?_⟩
            have hq := hT'.turn (w' := w'.setCell ⟨p, 2, none⟩ (.slice A3 (l.line.length + 1) k3)) fun k hk => Below.heap_setCell w' _ _ k fun e => hT'.ne hP' hne (by rw [hk, e])
            simpa [lineV, wantC] using hq
          · exact hK2.setCell (p := ⟨p, 2, none⟩) (.inl (.inl rfl)) _
        exact AllReady.nil
      exact AllReady.nil
    · have hz1 : l.line.length ≠ 0 := fun e => hz0 e
      have d3 : ((l.line.length : Int) == 0) = false := by revert hz1; generalize l.line.length = n9; intro hz1; simp; omega
      clear hz hz0
      go_enter Try.func9, Try.ntmps9
      go_wp2_with fail
      refine HBT.out.mono ?_
      rintro e w1 ⟨rfl, rfl⟩
      go_wp2_with fail
      refine HH.out.mono ?_
      rintro e w1 ⟨rfl, rfl⟩
      go_wp2_with fail
      refine (waiting_any p B ty rest sl l w h (Nat.le_trans hn (by decide))).mono ?_
      rintro e w1 ⟨v, rfl, hm⟩
      obtain ⟨A, c, rfl, _, _, hr⟩ := hm.form
      have hb1 := hm.below
      clear hm
      go_wp2_with fail
      refine (contains_any _ A c l.line.length t w1 hr (by omega)).mono ?_
      rintro e w2 ⟨rfl, rfl⟩
      rw [HC.out]
      clear hr
      have hb3 := sub_alloc hb1 (.cells #[.int .i64 t, .bool b] 60)
      have h3 := h.up hb3
      have c2 := (h.up hb1).c2
      have hp2 := (h.up hb1).1.lt
      have hsz := hb1.size
      obtain ⟨A2, k2, rfl, _, _, _⟩ := h3.2.form
      go_wp2
      have hT3 : TailRow (w1.drew.alloc (.cells #[.int .i64 t, .bool b] 60)) B 60 2 _ l.line.length (lineV l.line) := h3.2
      have hP3 : Blk (w1.drew.alloc (.cells #[.int .i64 t, .bool b] 60)) p ty _ := h3.1
      have hnp := h3.2.ne h3.1 hne
      have hn9 : l.line.length ≤ 900 := hn
      have hBs : B ≤ (w1.drew.alloc (.cells #[.int .i64 t, .bool b] 60)).heap.size := by show B ≤ (w1.alloc _).heap.size; rw [World.size_alloc]; omega
      refine ord_start (by kernel_rfl) ?_
      simp only [List.length_cons, List.length_nil, Nat.reduceAdd, List.size_toArray]
      refine ord_pure 0 (v := ?_) rfl (by kernel_rfl) (by intro _ _ _ h; exact h) (by rfl) (fun W => ?_) ?_
      rotate_left
      · first | (go_simp; done) | (go_simp; with_reducible rfl)
      try simp only [Act.put, List.setIfInBounds_toArray, List.set_cons_zero, List.set_cons_succ]
      refine ord_pure 1 (v := ?_) rfl (by kernel_rfl) (by intro _ _ _ h; exact h) (by rfl) (fun W => ?_) ?_
      rotate_left
      · first | (go_simp; done) | (go_simp; with_reducible rfl)
      try simp only [Act.put, List.setIfInBounds_toArray, List.set_cons_zero, List.set_cons_succ]
      refine ord_pure 2 (v := ?_) rfl (by kernel_rfl) (by intro _ _ _ h; exact h) (by rfl) (fun W => ?_) ?_
      rotate_left
      · first | (go_simp; done) | (go_simp; with_reducible rfl)
      try simp only [Act.put, List.setIfInBounds_toArray, List.set_cons_zero, List.set_cons_succ]
      refine ord_pure 3 (v := ?_) rfl (by kernel_rfl) (by intro _ _ _ h; exact h) (by rfl) (fun W => ?_) ?_
      rotate_left
      · first | (go_simp; done) | (go_simp; with_reducible rfl)
      try simp only [Act.put, List.setIfInBounds_toArray, List.set_cons_zero, List.set_cons_succ]
      refine ord_ready (rs := [4, 5]) (by kernel_rfl) (by simp) ?_
      refine ord_next rfl (by rfl) (fun K hK => ?_) ?_
      · skip
        go_simp
        refine hK _ _ ?_
        clear hK
        try simp only [Act.put, List.setIfInBounds_toArray, List.set_cons_zero, List.set_cons_succ]
        refine ord_ready (rs := [5]) (by kernel_rfl) (by simp) ?_
        refine ord_next rfl (by rfl) (fun K hK => ?_) ?_
        rotate_left
        · exact AllReady.nil
        go_simp
        refine hK _ _ ?_
        clear hK
        try simp only [Act.put, List.setIfInBounds_toArray, List.set_cons_zero, List.set_cons_succ]
        refine ord_ready (rs := [6]) (by kernel_rfl) (by simp) ?_
        refine ord_next rfl (by rfl) (fun K hK => ?_) ?_
        rotate_left
        · exact AllReady.nil
        go_simp
        refine hK _ _ ?_
        clear hK
        try simp only [Act.put, List.setIfInBounds_toArray, List.set_cons_zero, List.set_cons_succ]
        refine ord_ready (rs := [7]) (by kernel_rfl) (by simp) ?_
        refine ord_next rfl (by rfl) (fun K hK => ?_) ?_
        rotate_left
        · exact AllReady.nil
        try simp only [drew_alloc]
        refine wp_append_T (w := w1.drew.alloc (.cells #[.int .i64 t, .bool b] 60)) (n := l.line.length) (xs := lineV l.line) (B := B) (g := w1.heap.size + 1) (v := .slice A2 l.line.length k2) elemWantL (by decide) (.tmp 49) (.tmp 51) rfl (by rfl) hT3 hBs (by simp) (by rfl) rfl (by simp [Value.oneCell']) (by omega) (by unfold maxLen; omega) ?_
        intro v' w' hT' hg' hlt'
        obtain ⟨A3, k3, rfl, _, _, _⟩ := hT'.form
        refine hK _ _ ?_
        have hP' := hP3.grown hg' (Ne.symm hnp)
        have f2 := hP'.frozen 2
        have kk2 := hP'.cell 2
        simp at kk2
        clear hK
        try simp only [Act.put, List.setIfInBounds_toArray, List.set_cons_zero, List.set_cons_succ]
        refine ord_pure 8 (v := ?_) rfl (by kernel_rfl) (by intro _ _ _ h; exact h) (by rfl) (fun W => ?_) ?_
        rotate_left
        · first | (go_simp; done) | (go_simp; with_reducible rfl)
        try simp only [Act.put, List.setIfInBounds_toArray, List.set_cons_zero, List.set_cons_succ]
        refine ord_pure 9 (v := ?_) rfl (by kernel_rfl) (by intro _ _ _ h; exact h) (by rfl) (fun W => ?_) ?_
        rotate_left
        · first | (go_simp; done) | (go_simp; with_reducible rfl)
        try simp only [Act.put, List.setIfInBounds_toArray, List.set_cons_zero, List.set_cons_succ]
        refine ord_ready (rs := [10]) (by kernel_rfl) (by simp) ?_
        refine ord_next rfl (by rfl) (fun K hK => ?_) ?_
        rotate_left
        · exact AllReady.nil
        go_simp
        refine hK _ _ ?_
        clear hK
        try simp only [Act.put, List.setIfInBounds_toArray, List.set_cons_zero, List.set_cons_succ]
        refine ord_done (by kernel_rfl) ?_
        go_wp2
        go_ret2
        have hK2 : Keep (fun j => j = p ∨ (Value.slice A2 l.line.length k2).ownBlock = some j) w _ := grownK (w1 := w1.drew.alloc (.cells #[.int .i64 t, .bool b] 60)) ((Keep.of_below (L := fun _ => False) hb1).drew.alloc _) hg' (fun _ h => h.elim) (fun k e => .inr e)
        refine ⟨by rw [HX.out]; rfl, .slice A3 (l.line.length + 1) k3, ?_, ?_⟩
        · rw [HX.out]
          refine ⟨by have hq := hP'.set_ 2 (.slice A3 (l.line.length + 1) k3); simpa using hq, ?_⟩
          have hq := hT'.turn (w' := w'.setCell ⟨p, 2, none⟩ (.slice A3 (l.line.length + 1) k3)) fun k hk => Below.heap_setCell w' _ _ k fun e => hT'.ne hP' hne (by rw [hk, e])
          simpa [lineV, wantC] using hq
        · exact hK2.setCell (p := ⟨p, 2, none⟩) (.inl (.inl rfl)) _
      refine ord_next rfl (by rfl) (fun K hK => ?_) ?_
      · skip
        go_simp
        refine hK _ _ ?_
        clear hK
        try simp only [Act.put, List.setIfInBounds_toArray, List.set_cons_zero, List.set_cons_succ]
        refine ord_ready (rs := [4, 6]) (by kernel_rfl) (by simp) ?_
        refine ord_next rfl (by rfl) (fun K hK => ?_) ?_
        · skip
          go_simp
          refine hK _ _ ?_
          clear hK
          try simp only [Act.put, List.setIfInBounds_toArray, List.set_cons_zero, List.set_cons_succ]
          refine ord_ready (rs := [6]) (by kernel_rfl) (by simp) ?_
          refine ord_next rfl (by rfl) (fun K hK => ?_) ?_
          rotate_left
          · exact AllReady.nil
          go_simp
          refine hK _ _ ?_
          clear hK
          try simp only [Act.put, List.setIfInBounds_toArray, List.set_cons_zero, List.set_cons_succ]
          refine ord_ready (rs := [7]) (by kernel_rfl) (by simp) ?_
          refine ord_next rfl (by rfl) (fun K hK => ?_) ?_
          rotate_left
          · exact AllReady.nil
          try simp only [drew_alloc]
          refine wp_append_T (w := w1.drew.alloc (.cells #[.int .i64 t, .bool b] 60)) (n := l.line.length) (xs := lineV l.line) (B := B) (g := w1.heap.size + 1) (v := .slice A2 l.line.length k2) elemWantL (by decide) (.tmp 49) (.tmp 51) rfl (by rfl) hT3 hBs (by simp) (by rfl) rfl (by simp [Value.oneCell']) (by omega) (by unfold maxLen; omega) ?_
          intro v' w' hT' hg' hlt'
          obtain ⟨A3, k3, rfl, _, _, _⟩ := hT'.form
          refine hK _ _ ?_
          have hP' := hP3.grown hg' (Ne.symm hnp)
          have f2 := hP'.frozen 2
          have kk2 := hP'.cell 2
          simp at kk2
          clear hK
          try simp only [Act.put, List.setIfInBounds_toArray, List.set_cons_zero, List.set_cons_succ]
          refine ord_pure 8 (v := ?_) rfl (by kernel_rfl) (by intro _ _ _ h; exact h) (by rfl) (fun W => ?_) ?_
          rotate_left
          · first | (go_simp; done) | (go_simp; with_reducible rfl)
          try simp only [Act.put, List.setIfInBounds_toArray, List.set_cons_zero, List.set_cons_succ]
          refine ord_pure 9 (v := ?_) rfl (by kernel_rfl) (by intro _ _ _ h; exact h) (by rfl) (fun W => ?_) ?_
          rotate_left
          · first | (go_simp; done) | (go_simp; with_reducible rfl)
          try simp only [Act.put, List.setIfInBounds_toArray, List.set_cons_zero, List.set_cons_succ]
          refine ord_ready (rs := [10]) (by kernel_rfl) (by simp) ?_
          refine ord_next rfl (by rfl) (fun K hK => ?_) ?_
          rotate_left
          · exact AllReady.nil
          go_simp
          refine hK _ _ ?_
          clear hK
          try simp only [Act.put, List.setIfInBounds_toArray, List.set_cons_zero, List.set_cons_succ]
          refine ord_done (by kernel_rfl) ?_
          go_wp2
          go_ret2
          have hK2 : Keep (fun j => j = p ∨ (Value.slice A2 l.line.length k2).ownBlock = some j) w _ := grownK (w1 := w1.drew.alloc (.cells #[.int .i64 t, .bool b] 60)) ((Keep.of_below (L := fun _ => False) hb1).drew.alloc _) hg' (fun _ h => h.elim) (fun k e => .inr e)
          refine ⟨by rw [HX.out]; rfl, .slice A3 (l.line.length + 1) k3, ?_, ?_⟩
          · rw [HX.out]
            refine ⟨by have hq := hP'.set_ 2 (.slice A3 (l.line.length + 1) k3); simpa using hq, ?_⟩
            have hq := hT'.turn (w' := w'.setCell ⟨p, 2, none⟩ (.slice A3 (l.line.length + 1) k3)) fun k hk => Below.heap_setCell w' _ _ k fun e => hT'.ne hP' hne (by rw [hk, e])
            simpa [lineV, wantC] using hq
          · exact hK2.setCell (p := ⟨p, 2, none⟩) (.inl (.inl rfl)) _
        refine ord_next rfl (by rfl) (fun K hK => ?_) ?_
        · skip
          go_simp
          refine hK _ _ ?_
          clear hK
          try simp only [Act.put, List.setIfInBounds_toArray, List.set_cons_zero, List.set_cons_succ]
          refine ord_ready (rs := [4]) (by kernel_rfl) (by simp) ?_
          refine ord_next rfl (by rfl) (fun K hK => ?_) ?_
          rotate_left
          · exact AllReady.nil
          go_simp
          refine hK _ _ ?_
          clear hK
          try simp only [Act.put, List.setIfInBounds_toArray, List.set_cons_zero, List.set_cons_succ]
          refine ord_ready (rs := [7]) (by kernel_rfl) (by simp) ?_
          refine ord_next rfl (by rfl) (fun K hK => ?_) ?_
          rotate_left
          · exact AllReady.nil
          try simp only [drew_alloc]
          refine wp_append_T (w := w1.drew.alloc (.cells #[.int .i64 t, .bool b] 60)) (n := l.line.length) (xs := lineV l.line) (B := B) (g := w1.heap.size + 1) (v := .slice A2 l.line.length k2) elemWantL (by decide) (.tmp 49) (.tmp 51) rfl (by rfl) hT3 hBs (by simp) (by rfl) rfl (by simp [Value.oneCell']) (by omega) (by unfold maxLen; omega) ?_
          intro v' w' hT' hg' hlt'
          obtain ⟨A3, k3, rfl, _, _, _⟩ := hT'.form
          refine hK _ _ ?_
          have hP' := hP3.grown hg' (Ne.symm hnp)
          have f2 := hP'.frozen 2
          have kk2 := hP'.cell 2
          simp at kk2
          clear hK
          try simp only [Act.put, List.setIfInBounds_toArray, List.set_cons_zero, List.set_cons_succ]
          refine ord_pure 8 (v := ?_) rfl (by kernel_rfl) (by intro _ _ _ h; exact h) (by rfl) (fun W => ?_) ?_
          rotate_left
          · first | (go_simp; done) | (go_simp; with_reducible rfl)
          try simp only [Act.put, List.setIfInBounds_toArray, List.set_cons_zero, List.set_cons_succ]
          refine ord_pure 9 (v := ?_) rfl (by kernel_rfl) (by intro _ _ _ h; exact h) (by rfl) (fun W => ?_) ?_
          rotate_left
          · first | (go_simp; done) | (go_simp; with_reducible rfl)
          try simp only [Act.put, List.setIfInBounds_toArray, List.set_cons_zero, List.set_cons_succ]
          refine ord_ready (rs := [10]) (by kernel_rfl) (by simp) ?_
          refine ord_next rfl (by rfl) (fun K hK => ?_) ?_
          rotate_left
          · exact AllReady.nil
          go_simp
          refine hK _ _ ?_
          clear hK
          try simp only [Act.put, List.setIfInBounds_toArray, List.set_cons_zero, List.set_cons_succ]
          refine ord_done (by kernel_rfl) ?_
          go_wp2
          go_ret2
          have hK2 : Keep (fun j => j = p ∨ (Value.slice A2 l.line.length k2).ownBlock = some j) w _ := grownK (w1 := w1.drew.alloc (.cells #[.int .i64 t, .bool b] 60)) ((Keep.of_below (L := fun _ => False) hb1).drew.alloc _) hg' (fun _ h => h.elim) (fun k e => .inr e)
          refine ⟨by rw [HX.out]; rfl, .slice A3 (l.line.length + 1) k3, ?_, ?_⟩
          · rw [HX.out]
            refine ⟨by have hq := hP'.set_ 2 (.slice A3 (l.line.length + 1) k3); simpa using hq, ?_⟩
            have hq := hT'.turn (w' := w'.setCell ⟨p, 2, none⟩ (.slice A3 (l.line.length + 1) k3)) fun k hk => Below.heap_setCell w' _ _ k fun e => hT'.ne hP' hne (by rw [hk, e])
            simpa [lineV, wantC] using hq
          · exact hK2.setCell (p := ⟨p, 2, none⟩) (.inl (.inl rfl)) _
        exact AllReady.nil
      exact AllReady.nil
end Go.Proofs.Ytlkappmielllcaa
