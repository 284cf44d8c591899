/-
  PicksText walked. Condition: strconv's table and errors lie in memory.
-/
import Derived.Test.YtenjhklkljeijaaDoorPickText
import Derived.Test.YtenjhklkljeijaaDoorPicksMake
import Derived.Test.YtenjhklkljeijaaDoorArgStr
namespace Go.Proofs.YtenjhklkljeijaaDoor
open Go.RowKit Go.Fw Go.Shelf
set_option maxHeartbeats 2000000
set_option maxRecDepth 100000
set_option linter.unusedVariables false
set_option linter.unusedSimpArgs false
theorem parse_text (l : List Int) (hin : ∀ x ∈ l, In64 x) (hl : l.length ≤ 1000) (w : World) (hT : Tabs Tryd.prog w) :
    Calls Tryd.prog 18 #[.string (textB l)] w fun e w' => ∃ v, e = .returned (.tuple #[v, .bool true]) ∧ MineS 1 w w' 3 v l.length (i64s l) := by
  have hsz : (textB l).size ≤ 100000 := by
    have h1 := textN_len hin
    have h3 : (textB l).size = (textN l).length := by
      show (textB l).data.size = _
      simp [textB]
    omega
  refine (parse_any (textB l) hsz w hT).mono fun e w' h => ?_
  by_cases h0 : l = []
  · subst h0
    rcases h with ⟨v, ns, he, h, hm⟩ | ⟨_, ⟨h, _⟩, _⟩
    · rcases h with ⟨_, rfl⟩ | ⟨h, _⟩
      · exact ⟨v, he, hm⟩
      · exact absurd rfl h
    · exact absurd rfl h
  · have hg := goodW_of hin
    rw [← words_text h0] at hg
    rcases h with ⟨v, ns, he, h, hm⟩ | ⟨_, ⟨_, x, hx, hno⟩, _⟩
    · rcases h with ⟨h, _⟩ | ⟨_, _, rfl⟩
      · exact absurd h (text_ne h0)
      · rw [hg.2] at hm
        exact ⟨v, he, hm⟩
    · exact absurd hno (hg.1 x hx)
theorem parse_back (s : ByteArray) (hs : s.size ≤ 300) (w : World) (hT : Tabs Tryd.prog w) :
    Calls Tryd.prog 18 #[.string s] w fun e w' => (∃ v ns, e = .returned (.tuple #[v, .bool true]) ∧ textB ns = s ∧ (∀ x ∈ ns, In64 x) ∧ ns.length ≤ 301 ∧ MineS 1 w w' 3 v ns.length (i64s ns)) ∨
      (e = .returned (.tuple #[.slice none 0 0, .bool false]) ∧ Below w.heap.size w w') := by
  refine (parse_any s (by omega) w hT).mono fun e w' h => ?_
  rcases h with ⟨v, ns, he, h, hm⟩ | ⟨he, _, hb⟩
  · refine .inl ⟨v, ns, he, ?_, ?_, ?_, hm⟩
    · rcases h with ⟨h0, rfl⟩ | ⟨_, hg, rfl⟩
      · exact bytes_ext (by have h3 : s.data.toList.length = 0 := by simpa using h0
                            rw [List.eq_nil_of_length_eq_zero h3]; rfl)
      · exact text_words hg
    · rcases h with ⟨h0, rfl⟩ | ⟨_, hg, rfl⟩
      · intro x hx; cases hx
      · exact numsW_in
    · rcases h with ⟨h0, rfl⟩ | ⟨_, hg, rfl⟩
      · simp
      · have h1 := numsW_len (wordsB 32 s)
        have h2 := wordsB_len 32 s
        omega
  · exact .inr ⟨he, hb⟩
theorem ptexts_early (l : List Int) (A : Option Addr) (c : Nat) (s : ByteArray) (w : World) (hT : Tabs Tryd.prog w) (hl : l.length ≤ maxLen) (hs : s.size ≤ maxLen) (h : 60 < l.length ∨ 300 < s.size) :
    Calls Tryd.prog 6 #[.slice A l.length c, .string s] w fun e w' => e = .returned (.bool true) ∧ Below w.heap.size w w' := by
  unfold maxLen at hl hs
  have hor : (60 : Int) < (l.length : Int) ∨ (¬ (60 : Int) < (l.length : Int) ∧ (300 : Int) < (s.size : Int)) := by omega
  clear h
  rcases hor with h1 | ⟨h1, h2⟩
  all_goals
    go_enter Tryd.func6, Tryd.ntmps6
    go_wp2_with fail
    refine (pawake_any w hT).mono ?_
    rintro e w1 ⟨rfl, hb⟩
    go_wp2
    go_ret
    exact ⟨rfl, hb⟩
theorem ptexts_late (l : List Int) (A : Option Addr) (c : Nat) (s : ByteArray) (w : World) (hT : Tabs Tryd.prog w) (hr : Reads w w.heap.size 1 A l.length (i64s l)) (hin : ∀ x ∈ l, In64 x) (hl : l.length ≤ 60) (hs : s.size ≤ 300) :
    Calls Tryd.prog 6 #[.slice A l.length c, .string s] w fun e w' => e = .returned (.bool true) ∧ Below w.heap.size w w' := by
  have h1 : ¬ (60 : Int) < (l.length : Int) := by omega
  have h2 : ¬ (300 : Int) < (s.size : Int) := by omega
  have HIN := Lib.hid hin
  have HT := Lib.hid hT
  clear hin hT
  go_enter Tryd.func6, Tryd.ntmps6
  go_wp2_with fail
  refine (pawake_any w HT.out).mono ?_
  rintro e w1 ⟨rfl, b1⟩
  have HR1 := Lib.hid (hr.up b1)
  clear hr
  go_wp2_with fail
  refine (ptext_any l A c _ (HT.out.up b1) HR1.out HIN.out (by omega)).mono ?_
  rintro e w2 ⟨rfl, hb2⟩
  have b2 := sub_trans b1 hb2
  have HR2 := Lib.hid (HR1.out.up hb2)
  clear b1 hb2 HR1
  have HW := Lib.hid (parse_text l HIN.out (by omega) w2 (HT.out.up b2))
  have HRT := Lib.hid (rtext_any l A c)
  generalize hX : textB l = X at *
  clear hX
  go_wp2_with fail
  refine HW.out.mono ?_
  rintro e w3 ⟨v3, rfl, hm3⟩
  obtain ⟨A3, c3, rfl, r3⟩ := mine_form hm3 rfl
  have b3 := sub_trans b2 hm3.below
  have HR3 := Lib.hid (HR2.out.up hm3.below)
  have HS := Lib.hid r3
  clear hm3 b2 HR2 r3 HW
  go_wp2_with fail
  refine (parse_back s hs _ (HT.out.up b3)).mono ?_
  rintro e w4 h
  rcases h with ⟨v4, ns, rfl, hts, hnin, hnl, hm4⟩ | ⟨rfl, hb4⟩
  · obtain ⟨A4, c4, rfl, r4⟩ := mine_form hm4 rfl
    have b4 := sub_trans b3 hm4.below
    have HR4 := Lib.hid (HR3.out.up hm4.below)
    have HS4 := Lib.hid (HS.out.up hm4.below)
    have HB4 := Lib.hid (And.intro r4 (And.intro hts (And.intro hnin hnl)))
    clear hm4 b3 HR3 r4 hts hnin hnl HS
    go_wp2_with fail
    refine (HRT.out _ HR4.out HIN.out (by omega)).mono ?_
    rintro e w5 ⟨rfl, hb5⟩
    have b5 := sub_trans b4 hb5
    have HR5 := Lib.hid (HR4.out.up hb5)
    have HS5 := Lib.hid (HS4.out.up hb5)
    have HB5 := Lib.hid (HB4.out.1.up hb5)
    have hxx : (X.toList != X.toList) = false := by simp
    clear b4 hb5 HR4 HS4
    go_wp2_with fail
    refine (same7_any l l _ _ _ _ _ _ _ _ HS5.out HR5.out (by omega) (by omega) (smallN HIN.out) (smallN HIN.out)).mono ?_
    rintro e w6 ⟨rfl, hb6⟩
    rw [show decide (l = l) = true by simp]
    have b6 := sub_trans b5 hb6
    have HB6 := Lib.hid (HB5.out.up hb6)
    clear b5 hb6 HB5 HR5 HS5
    go_wp2_with fail
    refine (rtext_any ns A4 c4 _ HB6.out HB4.out.2.2.1 (by have := HB4.out.2.2.2; omega)).mono ?_
    rintro e w7 ⟨rfl, hb7⟩
    rw [HB4.out.2.1]
    have b7 := sub_trans b6 hb7
    go_wp2
    go_ret
    exact ⟨by first | rfl | simp, b7⟩
  · have b4 := sub_trans b3 hb4
    have HR4 := Lib.hid (HR3.out.up hb4)
    have HS4 := Lib.hid (HS.out.up hb4)
    clear hb4 b3 HR3 HS
    go_wp2_with fail
    refine (HRT.out _ HR4.out HIN.out (by omega)).mono ?_
    rintro e w5 ⟨rfl, hb5⟩
    have b5 := sub_trans b4 hb5
    have HR5 := Lib.hid (HR4.out.up hb5)
    have HS5 := Lib.hid (HS4.out.up hb5)
    have hxx : (X.toList != X.toList) = false := by simp
    clear b4 hb5 HR4 HS4
    go_wp2_with fail
    refine (same7_any l l _ _ _ _ _ _ _ _ HS5.out HR5.out (by omega) (by omega) (smallN HIN.out) (smallN HIN.out)).mono ?_
    rintro e w6 ⟨rfl, hb6⟩
    rw [show decide (l = l) = true by simp]
    have b6 := sub_trans b5 hb6
    clear b5 hb6 HR5 HS5
    go_wp2
    go_ret
    exact ⟨by first | rfl | simp, b6⟩
theorem picksText_walk (l : List Int) (A : Option Addr) (c : Nat) (s : ByteArray) (w : World) (hT : Tabs Tryd.prog w) (hr : Reads w w.heap.size 1 A l.length (i64s l)) (hin : Small l) (hl : l.length ≤ maxLen ∧ l.length ≤ c) (hs : s.size ≤ maxLen) :
    Calls Tryd.prog 6 #[.slice A l.length c, .string s] w fun e w' => e = .returned (.bool true) ∧ Below w.heap.size w w' := by
  by_cases h : 60 < l.length ∨ 300 < s.size
  · exact ptexts_early l A c s w hT hl.1 hs h
  · exact ptexts_late l A c s w hT hr (small_in hin) (by omega) (by omega)
end Go.Proofs.YtenjhklkljeijaaDoor
