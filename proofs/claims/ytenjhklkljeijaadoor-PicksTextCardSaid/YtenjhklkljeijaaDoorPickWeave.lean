/-
  Weave, walked. Conditions: few picks, few numbers.
-/
import Derived.Test.YtenjhklkljeijaaDoorPickLeft
import Derived.Deep.Cut
import Derived.Deep.CutBlock
import Derived.Deep.DeepCutAuto
namespace Go.Proofs.YtenjhklkljeijaaDoor
open Go.RowKit Go.Fw
set_option maxHeartbeats 1000000
set_option maxRecDepth 4000
set_option linter.unusedVariables false
set_option linter.unusedSimpArgs false
def WSt (w wr : World) (n : Nat) (raw : List Int) (vo vl : Value) (j : Nat) : Prop := MineS 1 w wr 3 vo j (i64s (weaveN n raw j).1) ∧ LeftAt wr vo vl (weaveN n raw j).2
def WSt2 (w wr : World) (vo vl : Value) (j : Nat) (out left : List Int) : Prop := MineS 1 w wr 3 vo j (i64s out) ∧ LeftAt wr vo vl left
theorem weave_no (n long : Int) (raw : List Int) (A : Option Addr) (c : Nat) (w : World) (hl : long ≤ 100000) (hn : n < 1 ∨ 32 < n) :
    Calls Tryd.prog 11 #[.int .i64 n, .int .i64 long, .slice A raw.length c] w fun e w' => e = .returned (.slice none 0 0) ∧ w = w' := by
  have h0 : ¬ 1048576 < long := by omega
  have hor : n < 1 ∨ (¬ n < 1 ∧ 32 < n) := by omega
  clear hn
  rcases hor with hn | ⟨hn, hn2⟩
  all_goals
    go_enter Tryd.func11, Tryd.ntmps11
    go_wp2
    go_loop [7, 14] (fun o i => o = .slice none 0 0 ∧ i = .int .i64 0) (fun _ i => 1)
    case atStart => exact ⟨rfl, rfl⟩
    case round =>
      obtain ⟨rfl, rfl⟩ := hrel
      by_cases hlt : 0 < long
      · go_wp2
        go_ret
        exact ⟨rfl, rfl⟩
      · go_wp2
        go_ret
        exact ⟨rfl, rfl⟩
theorem weave_any (n : Nat) (long : Int) (raw : List Int) (A : Option Addr) (c : Nat) (w : World) (hr : Reads w w.heap.size 1 A raw.length (i64s raw)) (hin : ∀ x ∈ raw, In64 x) (hn1 : 1 ≤ n) (hn2 : n ≤ 32) (hl : long ≤ 100000) (hrl : raw.length ≤ 100000) :
    Calls Tryd.prog 11 #[.int .i64 (n : Int), .int .i64 long, .slice A raw.length c] w fun e w' => ∃ v, e = .returned v ∧ MineS 1 w w' 3 v long.toNat (i64s (weaveN n raw long.toNat).1) := by
  have HIN := Lib.hid hin
  have HR := Lib.hid hr
  have h0 : ¬ 1048576 < long := by omega
  have n1 : ¬ (n : Int) < 1 := by omega
  have n2 : ¬ 32 < (n : Int) := by omega
  clear hin hr
  go_enter Tryd.func11, Tryd.ntmps11
  generalize hnl : raw.length = N at *
  have HN := Lib.hid hnl
  clear hnl
  go_wp2
  go_loopw [7, 8, 14] (fun vo vl i wr => ∃ j : Nat, j ≤ long.toNat ∧ i = .int .i64 j ∧ WSt w wr n raw vo vl j) (fun _ _ i _ => long.toNat - (intOf i).toNat)
  case atStart => exact ⟨0, Nat.zero_le _, rfl, ⟨World.ownsRow_nil _ _ _ _, Below.refl _ _⟩, LeftAt.nil_ _ _⟩
  case round =>
    obtain ⟨j, hj, rfl, hm, hL⟩ := hrel
    by_cases hlt : (j : Int) < long
    · have hfew := weaveN_few n hn1 raw j
      have hplt := placeN_lt hn1 raw j (weaveN n raw j).2
      have hpeq := placeN_eq hn1 raw j (weaveN n raw j).2
      have hfl := fillN_len hfew
      have hfp := fillN_pos hn1 (weaveN n raw j).2
      have hlft := weaveN_left n hn1 raw j
      have hfil := (fillN_left hlft).2
      obtain ⟨at_, hat⟩ : ∃ at_, at_ = placeN n raw j (weaveN n raw j).2 := ⟨_, rfl⟩
      rw [← hat] at hplt hpeq
      have HW := Lib.hid (And.intro trivial (And.intro hpeq hfil))
      clear hpeq hlft hfil
      obtain ⟨left, hleft⟩ : ∃ left, left = (weaveN n raw j).2 := ⟨_, rfl⟩
      obtain ⟨out, hout⟩ : ∃ out, out = (weaveN n raw j).1 := ⟨_, rfl⟩
      rw [← hleft] at hL hplt hfl hfp hfew
      rw [← hout] at hm
      have HLO := Lib.hid (And.intro hleft hout)
      have HM := Lib.hid hm
      obtain ⟨Ao, co, rfl, _, _⟩ := own_form hm.own
      clear hleft hout hm
      obtain ⟨Al, cl, rfl, hcl1, hcl2, hRl, hne⟩ := hL
      have HL : Hid (LeftAt wr (.slice Ao j co) (.slice Al left.length cl) left) := Lib.hid ⟨Al, cl, rfl, hcl1, hcl2, hRl, hne⟩
      have hj5 : j ≤ 100000 := by omega
      have hnI : In64 (n : Int) := by unfold In64; omega
      clear hRl hne hcl1 hcl2
      obtain ⟨fl, hfill⟩ : ∃ fl, fl = fillN n left := ⟨_, rfl⟩
      rw [← hfill] at hplt hfl hfp
      have HFILL := Lib.hid hfill
      have HW1 : Hid ((weaveN n raw (j + 1)).1 = out ++ [fl.getD at_ 0] ∧ (weaveN n raw (j + 1)).2 = fl.take at_ ++ fl.drop (at_ + 1)) := Lib.hid ⟨by rw [hfill, HLO.out.1, HLO.out.2, hat]; rfl, by rw [hfill, HLO.out.1, hat]; rfl⟩
      clear hfill hat
      generalize hll : left.length = ll at *
      have HLL := Lib.hid hll
      clear hll
      go_upto_if 25 with fail
      go_cut [8] (fun v wx => WSt2 w wx (.slice Ao j co) v j out fl)
      case first =>
        by_cases hz : ll = 0
        · subst hz
          go_wp2_with fail
          refine (round_any (n : Int) (n : Int) _ hnI (by omega)).mono ?_
          rintro e w' ⟨v, rfl, hmr⟩
          go_wp2
          go_meet
          have hnil : left = [] := List.eq_nil_of_length_eq_zero HLL.out
          have e1 : fl = roundN (n : Int) n := by rw [HFILL.out, hnil]; rfl
          have hmr2 : MineS 1 wr w' 3 v n (i64s (roundN (n : Int) n)) := by simpa using hmr
          exact ⟨⟨own_later HM.out.own hmr2.below, sub_trans HM.out.below hmr2.below⟩, by rw [e1]; exact left_new (roundN_length _ _).symm hmr2 fun k hk => (HM.out.own.lt k hk).2⟩
        · have hz1 : ((ll : Int) == 0) = false := by rw [beq_eq_false_iff_ne]; omega
          go_wp2
          go_meet
          have hne : left ≠ [] := fun e => hz (by rw [← HLL.out, e]; rfl)
          have e1 : fl = left := by rw [HFILL.out]; unfold fillN; rw [if_neg hne]
          exact ⟨HM.out, by rw [e1]; exact HL.out⟩
      case rest =>
        obtain ⟨hm2, hL2⟩ := hcut
        clear HM HL HLL
        obtain ⟨Al2, cl2, rfl, hcl1, hcl2, hRl, hne⟩ := hL2
        have hrw := hm2.below
        have HLR := Lib.hid (And.intro hRl (And.intro hne hm2))
        clear hRl hne hm2
        go_upto_if 31 with fail
        go_cut [10] (fun v wy => v = .int .i64 (drawN raw j) ∧ wy = wc)
        case first =>
          by_cases hz : N = 0
          · subst hz
            have hnil : raw = [] := List.eq_nil_of_length_eq_zero HN.out
            have e1 : drawN raw j = 0 := by unfold drawN; rw [if_pos hnil]
            have HE := Lib.hid e1
            clear e1 hnil
            go_wp2
            go_meet
            exact ⟨by rw [HE.out], rfl⟩
          · have hNp : 0 < N := by omega
            have hjm : j % N < N := Nat.mod_lt _ hNp
            have hjl : j % N < raw.length := by have := HN.out; omega
            obtain ⟨ad, u, rfl, _, hux, hc⟩ := (HR.out.up hrw).at_ hjm
            obtain rfl := i64s_get hux hjl
            have e1 : drawN raw j = raw[j % N] := by
              have h2 := HN.out
              subst h2
              unfold drawN
              rw [if_neg (fun e => by rw [e] at hNp; simp at hNp), List.getD_eq_getElem?_getD, List.getElem?_eq_getElem hjl]
              rfl
            have HE := Lib.hid e1
            have hmod : (j : Int) % (N : Int) = ((j % N : Nat) : Int) := by omega
            have hmodt : (j : Int).tmod (N : Int) = ((j % N : Nat) : Int) := by rw [Int.tmod_eq_emod_of_nonneg (by omega)]; exact hmod
            have hNz : ¬ N = 0 := hz
            have hNp2 : 0 < (N : Int) := by omega
            have hjm2 : ((j % N : Nat) : Int) < (N : Int) := by omega
            clear e1 hux
            generalize raw[j % N] = x at *
            generalize j % N = jm at *
            go_wp2
            go_meet
            exact ⟨by rw [HE.out], rfl⟩
        case rest =>
          obtain ⟨rfl, rfl⟩ := hcut
          have hdin : In64 (drawN raw j) := by
            unfold drawN
            split
            · unfold In64; omega
            · rename_i hne2
              have hp2 : j % raw.length < raw.length := Nat.mod_lt _ (List.length_pos_iff.2 hne2)
              rw [List.getD_eq_getElem?_getD, List.getElem?_eq_getElem hp2]
              exact HIN.out _ (List.getElem_mem hp2)
          have hfI : In64 (fl.length : Int) := by unfold In64; omega
          have hfirst : firstN (drawN raw j) (fl.length : Int) = (at_ : Int) := by rw [HW.out.2.1, HFILL.out, HLO.out.1]
          have HFI := Lib.hid hfirst
          clear hfirst
          obtain ⟨hRl, hne, hm2⟩ := HLR.out
          obtain ⟨ad, u, rfl, hadlt, hux, hc⟩ := hRl.at_ hplt
          obtain rfl := i64s_get hux hplt
          have HX : Hid (fl[at_] = fl.getD at_ 0) := Lib.hid (by rw [List.getD_eq_getElem?_getD, List.getElem?_eq_getElem hplt]; rfl)
          have hne2 := hne ad rfl (by omega)
          have hown := hm2.own
          clear hRl hne hux hm2
          generalize fl[at_] = x at *
          generalize hflen : fl.length = fn at *
          have HFN := Lib.hid hflen
          clear hflen
          generalize drawN raw j = d at *
          go_wp2_with fail
          refine (first_any d (fn : Int) _ hdin hfI).mono ?_
          rintro e w' ⟨rfl, rfl⟩
          rw [HFI.out]
          have hatI : (at_ : Int) < (fn : Int) := by omega
          go_wp2_with (at_builtin; go_must (refine wpList_append_oneN (w := wc) (n := j) (xs := i64s out) elemIntP (by decide) rfl _ _ rfl rfl hown hrw.size rfl rfl rfl (by simp [Value.oneCell']) (by omega) (by unfold maxLen; omega) ?_); intro v2 w2 hm3 hg2 hv2)
          have hL3 := LeftAt.other (w := wc) (vo := .slice Ao j co) (vl := .slice (some ad) fl.length cl2) ⟨some ad, cl2, rfl, by rw [HFN.out]; exact hcl1, hcl2, by rw [HFN.out]; exact HLR.out.1, fun ad' e' hp => HLR.out.2.1 ad' e' (by rw [← HFN.out]; exact hp)⟩ hg2 hv2
          have hm4 := HLR.out.2.2.app hg2 hm3
          obtain ⟨A5, c5, e5, _, _, hR5, hne5⟩ := hL3
          injection e5 with e5 _ e7
          subst e5 e7
          have H5 := Lib.hid (And.intro hR5 (And.intro hne5 (And.intro hm4 hm3)))
          clear hR5 hne5 hm4 hm3 hg2 hv2 hne2 hown
          have hw : IntKind.i64.wrap ((at_ : Int) + 1) = (at_ : Int) + 1 := IntWalk.i64_in _ ⟨by omega, by omega⟩
          have hw0 : 0 ≤ (at_ : Int) + 1 := by omega
          have hwn : ((at_ : Int) + 1).toNat = at_ + 1 := by omega
          have ha1 : (at_ : Int) ≤ (cl2 : Int) := by omega
          have ha2 : (at_ : Int) + 1 ≤ (fn : Int) := by omega
          have ha3 : (fn : Int) ≤ (cl2 : Int) := by omega
          refine still_start 8 (by kernel_rfl) (by kernel_rfl) ?_
          simp only [List.take_succ_cons, List.take_zero, List.drop_succ_cons, List.drop_zero]
          repeat still_step
          refine wpStill_nil ?_
          have hfl2 : fl.length ≤ 32 := by rw [HFN.out]; omega
          refine wpList_append_cut (w := w2.drew) (ad := ad) (c := cl2) (k := at_) (xs := fl) (vo := v2) elemIntP rfl (.tmp 53) (.tmp 57) rfl rfl rfl (by rw [HFN.out]) H5.out.1 (by rw [HFN.out]; exact hcl1) (by rw [HFN.out]; exact hplt)
            (H5.out.2.1 ad rfl (by rw [HFN.out]; exact hfp)) (fun g hg => (H5.out.2.2.1.own.lt g hg).2) (by omega) (by simp [maxLen]; omega) ?hA2 ?_
          case hA2 =>
            clear HW HW1 HR HIN HLR HFI HX H5
            simp [Addr.add]
          intro v5 w5 hb5 hL5
          have hm5 : MineS 1 w w5 3 v2 (j + 1) (i64s (weaveN n raw (j + 1)).1) := by
            have h6 := H5.out.2.2.1
            rw [HW1.out.1, ← HX.out]
            have h7 : MineS 1 w w2 3 v2 (j + 1) (i64s (out ++ [x])) := by simpa [i64s] using h6
            exact ⟨own_later h7.own (sub_trans (Below.refl _ _).drew hb5), sub_trans h7.below (sub_trans (Below.refl _ _).drew hb5)⟩
          have hL6 : LeftAt w5 v2 v5 (weaveN n raw (j + 1)).2 := by rw [HW1.out.2]; exact hL5
          have HFIN := Lib.hid (And.intro hm5 hL6)
          clear hm5 hL6 hL5 hb5 H5 HLR HW HW1
          go_wp2
          go_roundw
          case rel => exact ⟨j + 1, by omega, by go_num, HFIN.out.1, HFIN.out.2⟩
          case measure => simp [intOf]; omega
    · have hje : j = long.toNat := by omega
      go_wp2
      go_ret
      exact ⟨_, rfl, by rw [← hje]; exact hm⟩
end Go.Proofs.YtenjhklkljeijaaDoor
