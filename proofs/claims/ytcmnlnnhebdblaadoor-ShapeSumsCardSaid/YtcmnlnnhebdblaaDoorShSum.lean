/-
  shape.Sum and shape.Samples walked (chapter 54). Conditions: numbers of 64 bits, few shapes.
-/
import Derived.Test.YtcmnlnnhebdblaaDoorShAt
import Derived.Test.YtcmnlnnhebdblaaDoorSat
import Derived.Test.YtcmnlnnhebdblaaDoorSatRadd
import Derived.Test.YtcmnlnnhebdblaaDoorSmps
namespace Go.Proofs.YtcmnlnnhebdblaaDoor
open Go.RowKit Go.Fw
set_option maxHeartbeats 1000000
set_option maxRecDepth 4000
set_option linter.unusedVariables false
set_option linter.unusedSimpArgs false
def atA (s : Adv) (tick : Int) : Int := atN s.tick s.load s.want s.reps s.why tick
theorem ok5 {s : Adv} (h : s.ok) : In5 s.tick s.load s.want s.reps s.why := ⟨h.tick, h.load, h.want, h.reps, h.why⟩
theorem atA_in {s : Adv} (tick : Int) (h : s.ok) : In64 (atA s tick) := atN_in tick (ok5 h)
def sumN (l : List Adv) (tick : Int) : Int := l.foldl (fun a s => sat (a + atA s tick)) 0
theorem sumN_snoc {l : List Adv} {k : Nat} (tick : Int) (h : k < l.length) : sumN (l.take (k + 1)) tick = sat (sumN (l.take k) tick + atA l[k] tick) := by
  rw [List.take_succ_eq_append_getElem h]
  unfold sumN
  rw [List.foldl_append]
  rfl
theorem sumN_in (l : List Adv) (tick : Int) : In64 (sumN l tick) := by
  unfold sumN
  rcases List.eq_nil_or_concat l with rfl | ⟨r, x, rfl⟩
  · exact ⟨by simp, by simp⟩
  · rw [List.concat_eq_append, List.foldl_append]
    exact sat_in _
theorem sum_any (l : List Adv) (A : Option Addr) (c n : Nat) (tick : Int) (w : World) (hr : Reads w w.heap.size 5 A n (advs l)) (hl : n ≤ 1000) (hok : ∀ s ∈ l, s.ok) (ht : In64 tick) :
    Calls Tryd.prog 14 #[.int .i64 tick, .slice A n c] w fun x w' => x = .returned (.int .i64 (sumN l tick)) ∧ Below w.heap.size w w' := by
  have HN := Lib.hid (adv_len hr)
  have HOK := Lib.hid hok
  have HR := Lib.hid hr
  have HT := Lib.hid ht
  clear hr hok ht
  go_enter Tryd.func14, Tryd.ntmps14
  go_wp2
  go_loopw [5, 10] (fun v i wr => ∃ (k : Nat), k ≤ n ∧ i = .int .i64 k ∧ v = .int .i64 (sumN (l.take k) tick) ∧ Below w.heap.size w wr) (fun _ i _ => n - (intOf i).toNat)
  case atStart => exact ⟨0, by omega, rfl, rfl, Below.refl _ _⟩
  case round =>
    obtain ⟨k, hk, rfl, rfl, hb⟩ := hrel
    by_cases hlt : k < n
    · have hkl : k < l.length := by have := HN.out; omega
      have HS := Lib.hid (sumN_snoc tick hkl)
      have HO : Hid (l[k].ok) := Lib.hid (HOK.out _ (List.getElem_mem hkl))
      have HI := Lib.hid (sumN_in (l.take k) tick)
      obtain ⟨bl, off, rfl, _, h0, h1, h2, h3, h4⟩ := adv_at (HR.out.up hb) hkl
      generalize sumN (l.take k) tick = acc at *
      generalize l[k] = s at *
      go_wp2_with fail
      refine (at_any s.tick s.load s.want s.reps s.why tick (ok5 HO.out) _ HT.out).mono ?_
      rintro x w1 ⟨rfl, hb1⟩
      have hb2 := sub_trans (sub_alloc hb _) hb1
      clear hb1 hb h0 h1 h2 h3 h4
      have HA := Lib.hid (show In64 (atN s.tick s.load s.want s.reps s.why tick) from atA_in tick HO.out)
      have HAE : Hid (atN s.tick s.load s.want s.reps s.why tick = atA s tick) := Lib.hid rfl
      generalize atN s.tick s.load s.want s.reps s.why tick = v at *
      go_wp2_with fail
      refine (add_any acc v _ HI.out HA.out).mono ?_
      rintro x w2 ⟨rfl, rfl⟩
      go_wp2
      go_roundw
      case rel => exact ⟨k + 1, by omega, by go_num, by rw [HS.out, ← HAE.out], hb2⟩
      case measure => simp [intOf]; omega
    · have ht : l.take k = l := List.take_of_length_le (by have := HN.out; omega)
      rw [ht]
      clear ht
      go_wp2
      go_ret
      exact ⟨rfl, hb⟩
def tickAt (from_ : Int) (k : Nat) : Int := sat (from_ + k)
def smpAt (l : List Adv) (from_ : Int) (k : Nat) : Smp := ⟨tickAt from_ k, sumN l (tickAt from_ k)⟩
def smpsN (l : List Adv) (from_ : Int) (n : Nat) : List Smp := (List.range n).map (smpAt l from_)
theorem smpsN_length (l : List Adv) (from_ : Int) (n : Nat) : (smpsN l from_ n).length = n := by simp [smpsN]
theorem smpsN_succ (l : List Adv) (from_ : Int) (n : Nat) : smpsN l from_ (n + 1) = smpsN l from_ n ++ [smpAt l from_ n] := by simp [smpsN, List.range_succ]
theorem smpsN_get (l : List Adv) (from_ : Int) {n k : Nat} (h : k < (smpsN l from_ n).length) : (smpsN l from_ n)[k] = smpAt l from_ k := by simp [smpsN]
theorem elemSmp : ElemS Tryd.prog 36 39 (.agg #[.int .i64 0, .int .i64 0]) 2 16 := ⟨Tryd.underlying36, by kernel_rfl, rfl⟩
/-- how many samples are told -/
def manyN (m : Int) : Nat := (min m 256).toNat
theorem samples_any (l : List Adv) (A : Option Addr) (c n : Nat) (from_ m : Int) (w : World) (hr : Reads w w.heap.size 5 A n (advs l)) (hl : n ≤ 1000) (hok : ∀ s ∈ l, s.ok) (hf : In64 from_) :
    Calls Tryd.prog 9 #[.int .i64 from_, .int .i64 m, .slice A n c] w fun x w' => ∃ v, x = .returned v ∧ MineS 2 w w' 39 v (manyN m) (smps (smpsN l from_ (manyN m))) := by
  have HOK := Lib.hid hok
  have HR := Lib.hid hr
  have HF := Lib.hid hf
  clear hr hok hf
  go_enter Tryd.func9, Tryd.ntmps9
  go_wp2
  go_loopw [7, 11] (fun v i wr => ∃ (k : Nat), k ≤ manyN m ∧ i = .int .i64 k ∧ MineS 2 w wr 39 v k (smps (smpsN l from_ k))) (fun _ i _ => manyN m - (intOf i).toNat)
  case atStart => exact ⟨0, by omega, rfl, MineS.nil_ 2 w _⟩
  case round =>
    obtain ⟨k, hk, rfl, hm⟩ := hrel
    by_cases hlt : (k : Int) < m
    · by_cases h256 : k < 256
      · have hk2 : k < manyN m := by unfold manyN; omega
        have hI : ¬ (256 : Int) ≤ k := by omega
        have HK : Hid (k < manyN m) := Lib.hid hk2
        have HM := Lib.hid hm
        clear hk hk2 hm h256
        go_wp2_with fail
        refine (add_any from_ k _ HF.out ⟨by omega, by omega⟩).mono ?_
        rintro x w1 ⟨rfl, rfl⟩
        have HT : Hid (sat (from_ + (k : Int)) = tickAt from_ k) := Lib.hid rfl
        have HTI : Hid (In64 (sat (from_ + (k : Int)))) := Lib.hid (sat_in _)
        generalize sat (from_ + (k : Int)) = tk at *
        go_wp2_with fail
        refine (sum_any l A c n tk _ (HR.out.up HM.out.below) hl HOK.out HTI.out).mono ?_
        rintro x w2 ⟨rfl, hb2⟩
        have hm := HM.out.later hb2
        have HV : Hid (sumN l tk = sumN l (tickAt from_ k)) := Lib.hid (by rw [HT.out])
        generalize sumN l tk = sv at *
        have e : smps (smpsN l from_ k) ++ [.int .i64 tk, .int .i64 sv] = smps (smpsN l from_ (k + 1)) := by
          rw [smpsN_succ, ← smps_snoc]
          unfold smpAt
          rw [HT.out, HV.out]
          rfl
        have HE := Lib.hid e
        clear e HV HT
        go_wp2_with (at_builtin; refine wpList_append_oneS elemSmp (by decide) rfl (.tmp 19) (.tmp 25) rfl rfl hm rfl rfl (by simp [Value.oneCell']) (by omega) (by unfold maxLen; omega) ?_; intro v' w' hm' hg')
        go_roundw
        case rel => exact ⟨k + 1, HK.out, by go_num, by rw [← HE.out]; exact hm'⟩
        case measure => have := HK.out; simp [intOf]; omega
      · have hI : (256 : Int) ≤ k := by omega
        have hke : k = manyN m := by unfold manyN at hk ⊢; omega
        have HM := Lib.hid hm
        rw [hke] at HM
        clear hm hke
        go_wp2
        go_ret
        exact ⟨_, rfl, HM.out⟩
    · have hke : k = manyN m := by unfold manyN at hk ⊢; omega
      have HM := Lib.hid hm
      rw [hke] at HM
      clear hm hke
      go_wp2
      go_ret
      exact ⟨_, rfl, HM.out⟩
theorem tick_any (f : Int) (k : Nat) (w : World) (hf : In64 f) (hk : k ≤ 1000) :
    Calls Tryd.prog 10 #[.int .i64 f, .int .i64 (k : Int)] w fun x w' => x = .returned (.int .i64 (tickAt f k)) ∧ w = w' := by
  go_enter Tryd.func10, Tryd.ntmps10
  go_wp2_with fail
  refine (radd_any f k _ hf ⟨by omega, by omega⟩).mono ?_
  rintro x w1 ⟨rfl, rfl⟩
  go_wp2
  go_ret
  exact ⟨rfl, rfl⟩
theorem sample_any (a b : Int) (w : World) :
    Calls Tryd.prog 13 #[.int .i64 a, .int .i64 b] w fun x w' => x = .returned (.agg #[.int .i64 a, .int .i64 b]) ∧ Below w.heap.size w w' := by
  go_enter Tryd.func13, Tryd.ntmps13
  go_wp2
  exact bodyPost_ret (v := .agg #[.int .i64 a, .int .i64 b]) (by simp [results, Tryd.results13, go_sem]) rfl ⟨rfl, sub_alloc (Below.refl _ w) _⟩
end Go.Proofs.YtcmnlnnhebdblaaDoor
