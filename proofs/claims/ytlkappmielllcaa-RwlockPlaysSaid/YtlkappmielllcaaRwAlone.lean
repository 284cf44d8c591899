/-
  RwlockAlone walked. Condition: none.
-/
import Derived.Test.YtlkappmielllcaaRwRef
import Derived.Test.YtlkappmielllcaaArgs
import Derived.Deep.LoopGhost
import Derived.Deep.Cut
import Derived.Deep.CutRange
import Derived.Deep.DeepCutAuto
namespace Go.Fw
open Go.RowKit Go.WideShapes Go.ChangeShapes Go.Joins Go.Deep
set_option linter.unusedVariables false
def isAsk (a : Int) : Bool := decide (a = 0) || decide (a = 1)
def actC (x : Int × Int) : List Value := [.int .i64 x.1, .int .i64 x.2]
def actsV (l : List (Int × Int)) : List Value := l.flatMap actC
theorem actC_length (x : Int × Int) : (actC x).length = 2 := rfl
theorem actsV_length (l : List (Int × Int)) : (actsV l).length = l.length * 2 := flat_length _ 2 actC_length l
def ActsOk (l : List (Int × Int)) : Prop := ∀ a ∈ l, In64 a.1 ∧ In64 a.2
theorem act_len {w : World} {B n : Nat} {A : Option Addr} {l : List (Int × Int)} (h : Reads w B 2 A n (actsV l)) : n = l.length := by
  have := h.1
  rw [actsV_length] at this
  omega
theorem act_at {w : World} {B n k : Nat} {A : Option Addr} {l : List (Int × Int)} (h : Reads w B 2 A n (actsV l)) (hk : k < l.length) :
    ∃ b o, A = some ⟨b, o, none⟩ ∧ b < B ∧ w.cell? ⟨b, o + k * 2, none⟩ = some (.int .i64 l[k].1) ∧ w.cell? ⟨b, o + k * 2 + 1, none⟩ = some (.int .i64 l[k].2) := by
  obtain ⟨b, o, rfl, hb, hc⟩ := h.elem actC_length (by decide) (act_len h) hk
  exact ⟨b, o, rfl, hb, hc 0 _ rfl, hc 1 _ rfl⟩
theorem arg_acts {H : Type} {enc : TypeId × Value → H} {P : Program} {W : World} {base : Nat} {t e : TypeId} {fs : Array Field} {v : Value} {d : DataW H} {p : List MemPlace} (ht : P.underlying t = some (.slice e)) (he : P.underlying e = some (.struct fs)) (hone : oneCellFields P fs = true) (hC : P.cellsOf e = 2) (hsz : fs.size = 2)
    (hints : fs.all (fun f => isI64 (P.underlying f.type)) = true)
    (hv : Value.okWide P W .any base t v) (h : DataW.Trod enc P W 0 (fun _ => true) true t v d p) :
    ∃ (A : Option Addr) (c : Nat) (l : List (Int × Int)), v = .slice A l.length c ∧ (l.length ≤ maxLen ∧ l.length ≤ c) ∧ ActsOk l ∧ Reads W W.heap.size 2 A l.length (actsV l) := by
  obtain ⟨A, c, rows, rfl, hl, hr, hR⟩ := arg_rows ht he hone (by rw [hC, hsz]) (nums_of hints) (by omega) hv h
  refine ⟨A, c, rows.map fun r => (r.getD 0 0, r.getD 1 0), by simp, by simpa using hl, fun a ha => ?_, ?_⟩
  · obtain ⟨r, hr', rfl⟩ := List.mem_map.1 ha
    obtain ⟨q1, q2⟩ := hr r hr'
    rw [hsz] at q1
    match r, q1 with
    | [a, b], _ => exact ⟨q2 a (by simp), q2 b (by simp)⟩
  · have e1 : (rows.flatMap fun r => r.map i64v) = actsV (rows.map fun r => (r.getD 0 0, r.getD 1 0)) := by
      unfold actsV
      rw [List.flatMap_map]
      have : ∀ rs : List (List Int), (∀ r ∈ rs, r.length = 2) → (rs.flatMap fun r => r.map i64v) = rs.flatMap fun r => actC (r.getD 0 0, r.getD 1 0) := by
        intro rs
        induction rs with
        | nil => intro _; rfl
        | cons r rs ih =>
          intro hrs
          have h2 : r.map i64v = actC (r.getD 0 0, r.getD 1 0) := by
            have := hrs r (by simp)
            match r, this with
            | [a, b], _ => rfl
          rw [List.flatMap_cons, List.flatMap_cons, h2, ih (fun r' hr' => hrs r' (by simp [hr']))]
      exact this rows fun r hr' => (hr r hr').1.trans hsz
    rw [e1, hsz] at hR
    simpa using hR
theorem dropMem {t : Int} {l : List Int} {k : Nat} (hk : k < l.length) : decide (t ∈ l.drop k) = (decide (l[k] = t) || decide (t ∈ l.drop (k + 1))) := by
  rw [List.drop_eq_getElem_cons hk, Bool.eq_iff_iff]
  simp only [decide_eq_true_eq, Bool.or_eq_true, List.mem_cons]
  exact or_congr_left eq_comm
end Go.Fw
namespace Go.Proofs.Ytlkappmielllcaa
open Go.RowKit Go.Fw
set_option maxHeartbeats 1000000
set_option maxRecDepth 4000
set_option linter.unusedVariables false
set_option linter.unusedSimpArgs false
theorem has_any (l : List Int) (A : Option Addr) (c n : Nat) (t : Int) (w : World) (hr : Reads w w.heap.size 1 A n (i64s l)) (hn : n ≤ 100000) :
    Calls Try.prog 12 #[.slice A n c, .int .i64 t] w fun e w' => e = .returned (.bool (decide (t ∈ l))) ∧ w = w' := by
  have hl : n = l.length := by have := hr.len; rwa [i64s_length] at this
  have HL := Lib.hid hl
  clear hl
  go_enter Try.func12, Try.ntmps12
  go_wp2
  go_loop [5] (fun i => ∃ (k : Nat), k ≤ n ∧ i = .int .i64 k ∧ Hid (decide (t ∈ l) = decide (t ∈ l.drop k))) (fun i => n - (intOf i).toNat)
  case atStart => exact ⟨0, by omega, rfl, Lib.hid (by simp)⟩
  case round =>
    obtain ⟨k, hk, rfl, HI⟩ := hrel
    by_cases hlt : k < n
    · have hkl : k < l.length := by have := HL.out; omega
      obtain ⟨ad, u, rfl, _, hux, hc⟩ := hr.at_ hlt
      obtain rfl := i64s_get hux hkl
      have hs := dropMem (t := t) hkl
      generalize l[k] = x at *
      have HS := Lib.hid hs
      clear hs hux
      by_cases hx : x = t
      · subst hx
        have HX : Hid (decide (x ∈ l) = true) := by show _ = _; rw [HI.out, HS.out]; simp
        go_wp2
        go_ret
        exact ⟨ret_b HX.out.symm, rfl⟩
      · have hx2 : ¬ t = x := fun e => hx e.symm
        have HX : Hid (decide (t ∈ l) = decide (t ∈ l.drop (k + 1))) := by show _ = _; rw [HI.out, HS.out]; simp [hx]
        go_wp2
        go_round
        case rel => exact ⟨k + 1, by omega, by go_num, Lib.hid HX.out⟩
        case measure => simp [intOf]; omega
    · have e : l.drop k = [] := List.drop_eq_nil_of_le (by have := HL.out; omega)
      have HX : Hid (decide (t ∈ l) = false) := by show _ = _; rw [HI.out, e]; simp
      clear e
      go_wp2
      go_ret
      exact ⟨ret_b HX.out.symm, rfl⟩
/-- the lock that was laid first since world w0 -/
def LockIn (w0 w : World) (l : Lk) : Prop := ∃ sl, LockAt w w0.heap.size w0.heap.size 27 [] sl l ∧ Below w0.heap.size w0 w
def AloneSt (w0 w : World) (k : Nat) : Prop := ∃ l x, LockIn w0 w l ∧ RelL l x ∧ Alone x ∧ l.line.length ≤ k
theorem rwlockAlone_walk (l : List (Int × Int)) (A : Option Addr) (c : Nat) (w : World) (hr : Reads w w.heap.size 2 A l.length (actsV l)) (hok : ActsOk l) (hl : l.length ≤ maxLen ∧ l.length ≤ c) :
    Calls Try.prog 3 #[.slice A l.length c] w fun e w' => e = .returned (.bool true) ∧ Below w.heap.size w w' := by
  obtain ⟨hl63, hlc⟩ := hl
  unfold maxLen at hl63
  by_cases hbig : 80 < l.length
  · go_enter Try.func3, Try.ntmps3
    go_wp2_with fail
    refine (awake_any w).mono ?_
    rintro e w1 ⟨rfl, hb⟩
    go_wp2
    go_ret
    exact ⟨rfl, hb⟩
  · go_enter Try.func3, Try.ntmps3
    go_wp2_with fail
    refine (awake_any w).mono ?_
    rintro e w1 ⟨rfl, hb⟩
    have hr1 := hr.up hb
    have HR := Lib.hid hr1
    have HB := Lib.hid hb
    have HOK := Lib.hid hok
    clear hr hr1 hb hok
    generalize hn : l.length = n at *
    have HN := Lib.hid hn
    clear hn
    go_wp2
    go_loopg [17] n (fun g i wr => ∃ (k : Nat), k ≤ n ∧ g = n - k ∧ i = .int .i64 k ∧ AloneSt w1 wr k)
    case atStart => exact ⟨0, Nat.zero_le _, rfl, rfl, _, _, ⟨_, lock_new w1, sub_alloc (Below.refl _ _) _⟩, rel_new, alone_new, by simp⟩
    case round =>
      obtain ⟨k, hk, hg, rfl, lk, x, ⟨sl, hL, hB⟩, hrel2, hal, hlen⟩ := hrel
      have HG := Lib.hid hg
      clear hg
      by_cases hlt : k < n
      · have hkl : k < l.length := by have := HN.out; omega
        obtain ⟨bl, off, rfl, hbl, g0, g1⟩ := act_at (HR.out.up hB) hkl
        obtain ⟨i0, i1⟩ := HOK.out l[k] (List.getElem_mem hkl)
        generalize l[k] = a at *
        obtain ⟨a0, a1⟩ := a
        simp only at g0 g1 i0 i1
        unfold In64 at i0 i1
        have hlow : bl ≠ w1.heap.size := fun e => by have := (HR.out.base_ (k := k) (by decide) hlt); obtain ⟨b', o', e1, h2, _⟩ := this; injection e1 with e1; injection e1 with e1 _; omega
        go_upto_region 9 with fail
        go_cut [28] (fun v wx => v = .bool (isAsk a0) ∧ wx = wr.alloc (.cells #[.int .i64 a0, .int .i64 a1] 29))
        case first =>
          have h9 := Blk.new_at wr 29 #[.int .i64 a0, .int .i64 a1] (g := wr.heap.size) rfl
          have hc0 := h9.cell 0
          simp at hc0
          go_wp2_with fail
          all_goals go_meet
          all_goals (refine ⟨?_, by first | rfl | simp [*]⟩; first | (simp [isAsk, *]; done) | (refine congrArg Value.bool ?_; unfold isAsk; rw [Bool.eq_iff_iff]; simp; done) | (refine congrArg Value.bool ?_; unfold isAsk; rw [Bool.eq_iff_iff]; simp; omega))
        case rest =>
          obtain ⟨rfl, rfl⟩ := hcut
          go_upto_if 28 with fail
          go_cut [] (fun wx => AloneSt w1 wx (k + 1))
          case first =>
            have h9 := Blk.new_at wr 29 #[.int .i64 a0, .int .i64 a1] (g := wr.heap.size) rfl
            have hc0 := h9.cell 0
            have hc1 := h9.cell 1
            simp at hc0 hc1
            have hL9 := hL.up (sub_alloc (Below.refl _ wr) (.cells #[.int .i64 a0, .int .i64 a1] 29))
            have hB9 := sub_alloc hB (.cells #[.int .i64 a0, .int .i64 a1] 29)
            have HX := Lib.hid (And.intro hL9 (And.intro hB9 (And.intro hrel2 (And.intro hal hlen))))
            have HI := Lib.hid i1
            clear hL hB hrel2 hal hL9 hB9 g0 g1
            cases hia : isAsk a0
            · by_cases hz : heldN lk a1 = 0
              · have HZ := Lib.hid hz
                clear hz
                go_wp2_with fail
                refine (drop_none _ _ _ _ _ _ a1 _ HX.out.1 HX.out.2.2.1.ok HI.out HZ.out).mono ?_
                rintro e w2 ⟨rfl, rfl⟩
                go_wp2
                go_meet
                exact ⟨lk, x, ⟨sl, HX.out.1, HX.out.2.1⟩, HX.out.2.2.1, HX.out.2.2.2.1, by omega⟩
              · have HZ := Lib.hid hz
                clear hz
                go_wp2_with fail
                refine (drop_any _ _ _ _ _ _ a1 _ HX.out.1 HX.out.2.2.1.ok (by decide) (by omega) HI.out HZ.out).mono ?_
                rintro e w2 ⟨v2, rfl, _, sl2, h2, hK2⟩
                have b2 := HX.out.2.1.trans (hK2.below HX.out.2.1.size (fun k hk => by omega))
                have H2 := Lib.hid (And.intro h2 b2)
                clear h2 b2 hK2
                go_wp2
                go_meet
                have hz := dropL_len a1 HX.out.2.2.1.ok
                exact ⟨_, _, ⟨sl2, H2.out.1, H2.out.2⟩, (HX.out.2.2.1.drop a1).1, HX.out.2.2.2.1.drop a1, by omega⟩
            · go_wp2_with fail
              refine (ask_any _ _ _ _ _ _ a1 _ _ HX.out.1 HX.out.2.2.1.ok (by decide) (by omega) HX.out.2.1.size HI.out).mono ?_
              rintro e w2 ⟨rfl, sl2, h2, hK2⟩
              have b2 := HX.out.2.1.trans ((HX.out.1.askKeep (Nat.le_refl _) hK2).below HX.out.2.1.size fun _ h => h)
              have H2 := Lib.hid (And.intro h2 b2)
              clear h2 b2 hK2
              go_wp2
              go_meet
              have hz := askL_len lk a1 (a0 == 1)
              exact ⟨_, _, ⟨sl2, H2.out.1, H2.out.2⟩, (HX.out.2.2.1.ask a1 _).1, HX.out.2.2.2.1.ask a1 _, by omega⟩
          case rest =>
            clear hL hB hrel2 hal hlen g0 g1
            obtain ⟨l2, x2, ⟨sl2, hL2, hB2⟩, hr2, ha2, hlen2⟩ := hcut
            have HX := Lib.hid (And.intro hL2 (And.intro hB2 (And.intro hr2 ha2)))
            clear hL2 hB2 hr2 ha2
            go_wp2
            go_loopw [6, 7, 8] (fun vh vw vi wi => ∃ j : Nat, j ≤ 32 ∧ vh = .int .i64 (cntH x2 j) ∧ vw = .int .i64 (cntW x2 j) ∧ vi = .int .i64 j ∧ Below wc.heap.size wc wi) (fun _ _ vi _ => 32 - (intOf vi).toNat)
            case atStart => exact ⟨0, by omega, rfl, rfl, rfl, Below.refl _ _⟩
            case round =>
              obtain ⟨j, hj, rfl, rfl, rfl, hbw⟩ := hrel
              have hL3 := HX.out.1.up hbw
              have HL3 := Lib.hid (And.intro hL3 hbw)
              have hcl := cntH_le x2 j
              have hwl := cntW_le x2 j
              clear hL3 hbw
              by_cases hjlt : j < 32
              · have hcs : cntH x2 (j + 1) = cntH x2 j + if heldR x2 (j : Int) = 0 then 0 else 1 := rfl
                have hws : cntW x2 (j + 1) = cntW x2 j + if heldR x2 (j : Int) = 2 then 1 else 0 := rfl
                have hhe := held_any _ _ _ _ _ _ (j : Int) wr HL3.out.1 HX.out.2.2.1.ok (by omega)
                rw [HX.out.2.2.1.held] at hhe
                have hwt := waiting_any _ _ _ _ _ _ wr HL3.out.1 (by omega)
                have hnw : heldR x2 (j : Int) ≠ 0 → (j : Int) ∉ tasksL l2.line := fun h0 => by unfold tasksL; rw [HX.out.2.2.1.line]; exact HX.out.2.2.2.waits h0
                have hv : heldR x2 (j : Int) = 0 ∨ heldR x2 (j : Int) = 1 ∨ heldR x2 (j : Int) = 2 := by
                  unfold heldR
                  split
                  · exact .inr (.inr rfl)
                  split
                  · exact .inr (.inl rfl)
                  · exact .inl rfl
                generalize cntH x2 j = ch at *
                generalize cntW x2 j = cw at *
                rcases hv with hv | hv | hv
                · rw [hv] at hhe hcs hws
                  rw [if_pos rfl] at hcs
                  rw [if_neg (by decide)] at hws
                  have HH := Lib.hid hhe
                  have HC := Lib.hid (And.intro hcs hws)
                  clear hhe hcs hws hwt hnw hv
                  go_wp2_with fail
                  refine HH.out.mono ?_
                  rintro e w3 ⟨rfl, rfl⟩
                  go_wp2
                  go_roundw
                  case rel => exact ⟨j + 1, by omega, by rw [HC.out.1]; rfl, by rw [HC.out.2]; rfl, by go_num, HL3.out.2⟩
                  case measure => simp [intOf]; omega
                · rw [hv] at hhe hcs hws
                  rw [if_neg (by decide)] at hcs
                  rw [if_neg (by decide)] at hws
                  have HH := Lib.hid hhe
                  have HC := Lib.hid (And.intro hcs hws)
                  have HW := Lib.hid hwt
                  have HN2 := Lib.hid (hnw (by rw [hv]; decide))
                  clear hhe hcs hws hwt hnw hv
                  go_wp2_with fail
                  refine HH.out.mono ?_
                  rintro e w3 ⟨rfl, rfl⟩
                  go_wp2_with fail
                  refine HW.out.mono ?_
                  rintro e w3 ⟨v3, rfl, hm3⟩
                  obtain ⟨A3, c3, rfl, _, _, hr3⟩ := hm3.form
                  have hh3 := has_any _ _ c3 _ (j : Int) _ hr3 (by omega)
                  rw [decide_eq_false HN2.out] at hh3
                  have HH3 := Lib.hid hh3
                  have HB3 := Lib.hid hm3.below
                  clear hh3 hm3 hr3
                  go_wp2_with fail
                  refine HH3.out.mono ?_
                  rintro e w4 ⟨rfl, rfl⟩
                  go_wp2
                  go_roundw
                  case rel => exact ⟨j + 1, by omega, by rw [HC.out.1]; rfl, by rw [HC.out.2]; rfl, by go_num, sub_trans HL3.out.2 HB3.out⟩
                  case measure => simp [intOf]; omega
                · rw [hv] at hhe hcs hws
                  rw [if_neg (by decide)] at hcs
                  rw [if_pos rfl] at hws
                  have HH := Lib.hid hhe
                  have HC := Lib.hid (And.intro hcs hws)
                  have HW := Lib.hid hwt
                  have HN2 := Lib.hid (hnw (by rw [hv]; decide))
                  clear hhe hcs hws hwt hnw hv
                  go_wp2_with fail
                  refine HH.out.mono ?_
                  rintro e w3 ⟨rfl, rfl⟩
                  go_wp2_with fail
                  refine HW.out.mono ?_
                  rintro e w3 ⟨v3, rfl, hm3⟩
                  obtain ⟨A3, c3, rfl, _, _, hr3⟩ := hm3.form
                  have hh3 := has_any _ _ c3 _ (j : Int) _ hr3 (by omega)
                  rw [decide_eq_false HN2.out] at hh3
                  have HH3 := Lib.hid hh3
                  have HB3 := Lib.hid hm3.below
                  clear hh3 hm3 hr3
                  go_wp2_with fail
                  refine HH3.out.mono ?_
                  rintro e w4 ⟨rfl, rfl⟩
                  go_wp2
                  go_roundw
                  case rel => exact ⟨j + 1, by omega, by rw [HC.out.1]; rfl, by rw [HC.out.2]; rfl, by go_num, sub_trans HL3.out.2 HB3.out⟩
                  case measure => simp [intOf]; omega
              · have hj32 : j = 32 := by omega
                subst hj32
                obtain ⟨q1, q2⟩ := HX.out.2.2.2.count HX.out.2.2.1.r.rng HX.out.2.2.1.w.rng
                have hwt := waiting_any _ _ _ _ _ _ wr HL3.out.1 (by omega)
                rw [HX.out.2.2.1.line] at hwt
                have HW := Lib.hid hwt
                clear hwt
                generalize cntH x2 32 = ch at *
                generalize cntW x2 32 = cw at *
                by_cases h0 : ch = 0
                · have hln : x2.line.length = 0 := by rw [q2 h0]; rfl
                  rw [hln] at HW
                  subst h0
                  clear q1 q2
                  by_cases hw0 : cw = 0
                  · subst hw0
                    go_wp2_with fail
                    refine HW.out.mono ?_
                    rintro e w3 ⟨v3, rfl, hm3⟩
                    obtain ⟨A3, c3, rfl, _, _, hr3⟩ := hm3.form
                    have HB3 := Lib.hid hm3.below
                    clear hm3 hr3
                    go_wp2
                    go_roundg (n - (k + 1))
                    case measure => have := HG.out; omega
                    case rel => exact ⟨k + 1, by omega, rfl, by go_num, _, _, ⟨_, HX.out.1.up (sub_trans HL3.out.2 HB3.out), sub_trans HX.out.2.1 (sub_trans HL3.out.2 HB3.out)⟩, HX.out.2.2.1, HX.out.2.2.2, hlen2⟩
                  · have hwp : (0 : Int) < (cw : Int) := by omega
                    go_wp2_with fail
                    refine HW.out.mono ?_
                    rintro e w3 ⟨v3, rfl, hm3⟩
                    obtain ⟨A3, c3, rfl, _, _, hr3⟩ := hm3.form
                    have HB3 := Lib.hid hm3.below
                    clear hm3 hr3
                    go_wp2
                    go_roundg (n - (k + 1))
                    case measure => have := HG.out; omega
                    case rel => exact ⟨k + 1, by omega, rfl, by go_num, _, _, ⟨_, HX.out.1.up (sub_trans HL3.out.2 HB3.out), sub_trans HX.out.2.1 (sub_trans HL3.out.2 HB3.out)⟩, HX.out.2.2.1, HX.out.2.2.2, hlen2⟩
                · have hcp : ((ch : Int) == 0) = false := by simp; omega
                  clear q2
                  by_cases hw0 : cw = 0
                  · subst hw0
                    go_wp2
                    go_roundg (n - (k + 1))
                    case measure => have := HG.out; omega
                    case rel => exact ⟨k + 1, by omega, rfl, by go_num, _, _, ⟨_, HL3.out.1, sub_trans HX.out.2.1 HL3.out.2⟩, HX.out.2.2.1, HX.out.2.2.2, hlen2⟩
                  · have hwp : (0 : Int) < (cw : Int) := by omega
                    have hc1 : ¬ (1 : Int) < (ch : Int) := by omega
                    clear q1
                    go_wp2
                    go_roundg (n - (k + 1))
                    case measure => have := HG.out; omega
                    case rel => exact ⟨k + 1, by omega, rfl, by go_num, _, _, ⟨_, HL3.out.1, sub_trans HX.out.2.1 HL3.out.2⟩, HX.out.2.2.1, HX.out.2.2.2, hlen2⟩
      · go_wp2
        go_ret
        exact ⟨rfl, HB.out.trans (hB.mono HB.out.size)⟩
end Go.Proofs.Ytlkappmielllcaa
