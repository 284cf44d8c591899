/-
  The reference's Number and numbers walked (chapter 41). Condition: few bytes.
-/
import Derived.Test.YteljecehppeamaaDoorLinRefW
namespace Go.Fw
open Go.RowKit
set_option linter.unusedVariables false
set_option linter.unusedSimpArgs false
theorem headD_at : ∀ (l : List UInt8) (h : 0 < l.length), l.headD 0 = l[0]
  | [], h => by simp at h
  | a :: r, _ => rfl
def stepN (neg : Bool) (n d : Int) : Int := if neg = true then wrap64 (wrap64 (n * 10) - d) else wrap64 (wrap64 (n * 10) + d)
theorem stepN_in (neg : Bool) (n d : Int) : In64 (stepN neg n d) := by unfold stepN In64 wrap64; split <;> omega
def digB (b : UInt8) : Bool := decide (48 ≤ b.toNat) && decide (b.toNat ≤ 57)
/-- the number of digits, as the loop reads them; none: there is another sign -/
def goF (neg : Bool) : List UInt8 → Int → Option Int
  | [], n => some n
  | b :: r, n => if digB b = true then goF neg r (stepN neg n ((b.toNat : Int) - 48)) else none
def numL (l : List UInt8) : Option Int := if l.headD 0 = 45 then goF true (l.drop 1) 0 else goF false l 0
theorem goF_snoc (neg : Bool) (b : UInt8) : ∀ (l : List UInt8) (n : Int), goF neg (l ++ [b]) n = (goF neg l n).bind fun m => if digB b = true then some (stepN neg m ((b.toNat : Int) - 48)) else none
  | [], n => by
    simp [goF]
  | a :: l, n => by
    simp only [List.cons_append, goF]
    split
    · exact goF_snoc neg b l _
    · rfl
theorem goF_digits (neg : Bool) : ∀ (u : Nat), u ≤ 9223372036854775808 → (neg = false → u ≤ 9223372036854775807) → goF neg (Lib.decDigits u) 0 = some (if neg = true then -(u : Int) else u) := by
  intro u
  induction u using Nat.strongRecOn with
  | _ u ih =>
    intro h1 h2
    have hd : u % 10 < 10 := Nat.mod_lt _ (by decide)
    have hb : (UInt8.ofNat (48 + u % 10)).toNat = 48 + u % 10 := by simp only [UInt8.toNat_ofNat']; omega
    have hdig : digB (UInt8.ofNat (48 + u % 10)) = true := by unfold digB; rw [hb]; simp; omega
    have hc : ((48 + u % 10 : Nat) : Int) - 48 = ((u % 10 : Nat) : Int) := by omega
    rw [digits_head u]
    unfold headD
    by_cases hlt : u < 10
    · rw [if_pos hlt, List.nil_append]
      simp only [goF, hdig, if_true, hb, hc]
      unfold stepN wrap64
      cases neg <;> simp <;> omega
    · rw [if_neg hlt, goF_snoc, ih (u / 10) (by omega) (by omega) (by intro e; have := h2 e; omega)]
      simp only [Option.bind_some, hdig, if_true, hb, hc]
      unfold stepN wrap64
      cases neg with
      | true => simp; omega
      | false => have := h2 rfl; simp; omega
theorem numL_itoa {v : Int} (h : In64 v) : numL (Lib.itoa v) = some v := by
  obtain ⟨h1, h2⟩ := h
  unfold numL Lib.itoa
  by_cases hn : v < 0
  · rw [if_pos hn]
    simp only [List.headD_cons, List.drop_succ_cons, List.drop_zero, if_true]
    rw [goF_digits true v.natAbs (by omega) (by intro e; cases e)]
    simp
    omega
  · rw [if_neg hn]
    have hh : (Lib.decDigits v.toNat).headD 0 ≠ 45 := by
      have hall := digits_all v.toNat
      cases hd : Lib.decDigits v.toNat with
      | nil => exact absurd hd (digits_ne _)
      | cons a r =>
        rw [hd] at hall
        have := hall a (by simp)
        intro e
        simp only [List.headD_cons] at e
        rw [e] at this
        exact absurd this.1 (by decide)
    rw [if_neg hh, goF_digits false v.toNat (by omega) (by intro _; omega)]
    simp
    omega
theorem digits_19 {u : Nat} (h : u ≤ 9223372036854775808) : (Lib.decDigits u).length ≤ 19 := by
  rw [Lib.decDigits_length]
  rcases Nat.eq_zero_or_pos u with rfl | hp
  · rw [Lib.nDigits_small (by omega)]; omega
  · have key : ∀ k u, u < 10 ^ (k + 1) → Lib.nDigits u ≤ k + 1 := by
      intro k
      induction k with
      | zero => intro u hu; rw [Lib.nDigits_small (by simpa using hu)]; omega
      | succ k ih =>
        intro u hu
        by_cases hs : u < 10
        · rw [Lib.nDigits_small hs]; omega
        · rw [Lib.nDigits_big hs]
          have := ih (u / 10) (by rw [Nat.pow_succ] at hu; omega)
          omega
    exact key 18 u (by omega)
theorem readW_numL {s : ByteArray} {v : Int} (h : readW s = some v) : s.size ≤ 20 ∧ numL s.data.toList = some v ∧ s.data.toList ≠ [] := by
  obtain ⟨h1, h2, h3⟩ := readW_some h
  have e : s.data.toList = Lib.itoa v := by rw [← h3, decB_list]
  refine ⟨?_, by rw [e]; exact numL_itoa ⟨h1, h2⟩, by rw [e]; exact itoa_ne v⟩
  have hl : s.data.toList.length = s.size := rfl
  rw [← hl, e]
  unfold Lib.itoa
  split
  · have := digits_19 (u := v.natAbs) (by omega); simp; omega
  · have := digits_19 (u := v.toNat) (by omega); omega
end Go.Fw
namespace Go.Proofs.YteljecehppeamaaDoor
open Go.RowKit Go.Fw Go.Shelf
set_option maxHeartbeats 1000000
set_option maxRecDepth 4000
set_option linter.unusedVariables false
set_option linter.unusedSimpArgs false
def NumPost (s : ByteArray) (y : Ending) : Prop := ∃ n, y = .returned (.tuple #[.int .i64 n, .bool (readW s).isSome]) ∧ In64 n ∧ (∀ v, readW s = some v → n = v)
theorem numPost_no {s : ByteArray} {n : Int} (hn : In64 n) (h : readW s = none) : NumPost s (.returned (.tuple #[.int .i64 n, .bool false])) := ⟨n, by rw [h]; rfl, hn, fun v hv => by rw [h] at hv; cases hv⟩
theorem numPost_none {s : ByteArray} (h : readW s = none) : NumPost s (.returned (.tuple #[.int .i64 0, .bool false])) := numPost_no zero_in h
theorem rnumber_any (s : ByteArray) (w : World) (hs : s.size ≤ 100000) : Calls Tryd.prog 58 #[.string s] w fun y w' => NumPost s y ∧ w = w' := by
  have hsl : s.data.toList.length = s.size := rfl
  by_cases h20 : 20 < s.size
  · have HN : Hid (readW s = none) := Lib.hid (by
      cases h : readW s with
      | none => rfl
      | some v => have := (readW_numL h).1; omega)
    have hI : (20 : Int) < s.size := by omega
    go_enter Tryd.func58, Tryd.ntmps58
    go_wp2
    go_ret2
    exact ⟨numPost_none HN.out, rfl⟩
  have hI : ¬ (20 : Int) < s.size := by omega
  have HNL : Hid (numL s.data.toList = none → readW s = none) := Lib.hid (fun h => by
    cases h2 : readW s with
    | none => rfl
    | some v => rw [(readW_numL h2).2.1] at h; cases h)
  have HNV : Hid (∀ n, numL s.data.toList = some n → In64 n → (decB n = s → readW s = some n) ∧ (decB n ≠ s → readW s = none)) := Lib.hid (fun n h hn => ⟨fun e => by rw [← e]; exact readW_in hn, fun e => by
    cases h2 : readW s with
    | none => rfl
    | some v =>
      have h3 := (readW_numL h2).2.1
      rw [h] at h3
      injection h3 with h3
      subst h3
      exact absurd (readW_some h2).2.2 e⟩)
  go_enter Tryd.func58, Tryd.ntmps58
  go_wp2
  go_loop [4, 5] (fun v i => ∃ (k : Nat) (n : Int), k ≤ s.size ∧ i = .int .i64 k ∧ v = .int .i64 n ∧ Hid (In64 n ∧ (k = 0 → n = 0) ∧ (0 < k → numL s.data.toList = goF (decide (s.data.toList.headD 0 = 45)) (s.data.toList.drop k) n))) (fun _ i => s.size - (intOf i).toNat)
  case atStart => exact ⟨0, 0, by omega, rfl, rfl, Lib.hid ⟨zero_in, fun _ => rfl, fun h => by omega⟩⟩
  case round =>
    obtain ⟨k, n, hk, rfl, rfl, HR⟩ := hrel
    by_cases hlt : k < s.size
    · have h0s : 0 < s.size := by omega
      have hhd : s.data.toList.headD 0 = s[0] := by
        have hx : 0 < s.data.toList.length := by omega
        have e : s.data.toList[0]'hx = s[0] := rfl
        rw [← e]
        exact headD_at _ hx
      have hdr : s.data.toList.drop k = s[k] :: s.data.toList.drop (k + 1) := by
        rw [List.drop_eq_getElem_cons (by omega)]
        rfl
      by_cases hfirst : k = 0 ∧ s[0] = 45
      · obtain ⟨rfl, h45⟩ := hfirst
        have hI45 : ((s[0].toNat : Int) == 45) = true := by rw [h45]; rfl
        have HN2 : Hid (numL s.data.toList = goF (decide (s.data.toList.headD 0 = 45)) (s.data.toList.drop 1) 0) := Lib.hid (by unfold numL; rw [hhd, h45]; simp)
        clear hhd hdr h45
        go_wp2
        go_round
        case rel => exact ⟨1, n, by omega, by go_num, rfl, Lib.hid ⟨HR.out.1, fun h => by omega, fun _ => by rw [HR.out.2.1 rfl]; exact HN2.out⟩⟩
        case measure => simp [intOf]; omega
      · have hG : numL s.data.toList = goF (decide (s.data.toList.headD 0 = 45)) (s[k] :: s.data.toList.drop (k + 1)) n := by
          by_cases hk0 : k = 0
          · subst hk0
            have h45 : s[0] ≠ 45 := fun e => hfirst ⟨rfl, e⟩
            rw [← hdr, HR.out.2.1 rfl, hhd, decide_eq_false h45, List.drop_zero]
            unfold numL
            rw [hhd, if_neg h45]
          · rw [← hdr]
            exact HR.out.2.2 (by omega)
        simp only [goF] at hG
        have hfI : ((k : Int) == 0) = false ∨ (k = 0 ∧ ((s[k].toNat : Int) == 45) = false) := by
          by_cases hk0 : k = 0
          · refine .inr ⟨hk0, ?_⟩
            subst hk0
            rw [beq_eq_false_iff_ne]
            intro h
            exact hfirst ⟨rfl, UInt8.toNat_inj.1 (by have : s[0].toNat = 45 := by omega
                                                     rw [this]; rfl)⟩
          · exact .inl (by rw [beq_eq_false_iff_ne]; omega)
        by_cases hd : digB s[k] = true
        · have hdd : 48 ≤ s[k].toNat ∧ s[k].toNat ≤ 57 := by unfold digB at hd; simpa using hd
          rw [if_pos hd] at hG
          have hb1 : 48 ≤ (s[k].toNat : Int) := by omega
          have hb2 : (s[k].toNat : Int) ≤ 57 := by omega
          by_cases h45 : s[0] = 45
          · have hI45 : ((s[0].toNat : Int) == 45) = true := by rw [h45]; rfl
            have hk0 : ((k : Int) == 0) = false := by
              rw [beq_eq_false_iff_ne]
              intro h
              exact hfirst ⟨by omega, h45⟩
            rw [hhd, h45, decide_eq_true rfl] at hG
            have HG := Lib.hid hG
            have HHD : Hid (decide (s.data.toList.headD 0 = 45) = true) := Lib.hid (by rw [hhd, h45]; rfl)
            clear hG hd hdd hdr hfirst hhd h45 hfI
            go_wp2
            go_round
            case rel => exact ⟨k + 1, stepN true n ((s[k].toNat : Int) - 48), by omega, by go_num, rfl, Lib.hid ⟨stepN_in _ _ _, fun h => by omega, fun _ => by rw [HHD.out]; exact HG.out⟩⟩
            case measure => simp [intOf]; omega
          · have hI45 : ((s[0].toNat : Int) == 45) = false := by
              rw [beq_eq_false_iff_ne]
              intro h
              exact h45 (UInt8.toNat_inj.1 (by have : s[0].toNat = 45 := by omega
                                               rw [this]; rfl))
            rw [hhd, decide_eq_false h45] at hG
            have HG := Lib.hid hG
            have HHD : Hid (decide (s.data.toList.headD 0 = 45) = false) := Lib.hid (by rw [hhd]; exact decide_eq_false h45)
            clear hG hd hdd hdr hfirst hhd h45
            rcases hfI with hk0 | ⟨rfl, hk1⟩
            · go_wp2
              go_round
              case rel => exact ⟨k + 1, stepN false n ((s[k].toNat : Int) - 48), by omega, by go_num, rfl, Lib.hid ⟨stepN_in _ _ _, fun h => by omega, fun _ => by rw [HHD.out]; exact HG.out⟩⟩
              case measure => simp [intOf]; omega
            · go_wp2
              go_round
              case rel => exact ⟨1, stepN false n ((s[0].toNat : Int) - 48), by omega, by go_num, rfl, Lib.hid ⟨stepN_in _ _ _, fun h => by omega, fun _ => by rw [HHD.out]; exact HG.out⟩⟩
              case measure => simp [intOf]; omega
        · rw [if_neg hd] at hG
          have HNO := Lib.hid (HNL.out hG)
          have hdd : s[k].toNat < 48 ∨ 57 < s[k].toNat := by unfold digB at hd; simp at hd; omega
          have hdI : (s[k].toNat : Int) < 48 ∨ (¬ (s[k].toNat : Int) < 48 ∧ 57 < (s[k].toNat : Int)) := by omega
          clear hG hd hdd hdr hfirst hhd
          rcases hfI with hk0 | ⟨rfl, hk1⟩ <;> rcases hdI with hd1 | ⟨hd1, hd2⟩
          all_goals
            go_wp2
            go_ret2
            exact ⟨numPost_none HNO.out, rfl⟩
    · have hke : k = s.size := by omega
      have HD := Lib.hid (fun W => dec_any n HR.out.1 W)
      have hsome : (0 < k ∧ numL s.data.toList = some n) ∨ (k = 0 ∧ n = 0 ∧ s.size = 0) := by
        by_cases hk0 : k = 0
        · exact .inr ⟨hk0, HR.out.2.1 hk0, by omega⟩
        · refine .inl ⟨by omega, ?_⟩
          rw [HR.out.2.2 (by omega), List.drop_eq_nil_of_le (by omega)]
          rfl
      have hrw : (decB n = s → readW s = some n) ∧ (decB n ≠ s → readW s = none) := by
        rcases hsome with ⟨_, h⟩ | ⟨_, h1, h2⟩
        · exact HNV.out n h HR.out.1
        · have hne : readW s = none := by
            cases h3 : readW s with
            | none => rfl
            | some v =>
              have := (readW_numL h3).2.2
              exact absurd (List.eq_nil_of_length_eq_zero (by omega)) this
          refine ⟨fun e => ?_, fun _ => hne⟩
          have h3 := readW_in (n := n) HR.out.1
          rw [e, hne] at h3
          cases h3
      have HRW := Lib.hid hrw
      clear hrw hsome
      by_cases he : decB n = s
      · have hss := str_same s
        have hss2 : (s.toList == s.toList) = true := by simp
        have HF : Hid (NumPost s (.returned (.tuple #[.int .i64 n, .bool true]))) := Lib.hid ⟨n, by rw [HRW.out.1 he]; rfl, HR.out.1, fun v hv => by rw [HRW.out.1 he] at hv; injection hv⟩
        rw [he] at HD
        clear he
        go_wp2_with fail
        refine (HD.out _).mono ?_
        rintro y w1 ⟨rfl, rfl⟩
        go_wp2
        go_ret2
        exact ⟨HF.out, rfl⟩
      · have hss2 : ((decB n).toList == s.toList) = false := by simpa using str_ne he
        have HF : Hid (NumPost s (.returned (.tuple #[.int .i64 n, .bool false]))) := Lib.hid (numPost_no HR.out.1 (HRW.out.2 he))
        clear he
        generalize decB n = dn at *
        go_wp2_with fail
        refine (HD.out _).mono ?_
        rintro y w1 ⟨rfl, rfl⟩
        go_wp2
        go_ret2
        exact ⟨HF.out, rfl⟩
end Go.Proofs.YteljecehppeamaaDoor
