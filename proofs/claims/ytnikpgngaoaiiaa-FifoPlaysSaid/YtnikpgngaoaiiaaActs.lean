/-
  Rows of acts, two numbers each. Condition: none.
-/
import Derived.Test.YtnikpgngaoaiiaaArgs
namespace Go.Fw
open Go.RowKit Go.WideShapes Go.ChangeShapes Go.Joins Go.Deep
set_option linter.unusedVariables false
def actC (x : Int × Int) : List Value := [.int .i64 x.1, .int .i64 x.2]
def actsV (l : List (Int × Int)) : List Value := l.flatMap actC
theorem actC_length (x : Int × Int) : (actC x).length = 2 := rfl
theorem actsV_length (l : List (Int × Int)) : (actsV l).length = l.length * 2 := flat_length _ 2 actC_length l
def ActsOk (l : List (Int × Int)) : Prop := ∀ a ∈ l, In64 a.1 ∧ In64 a.2
theorem act_len {w : World} {B n : Nat} {A : Option Addr} {l : List (Int × Int)} (h : Reads w B 2 A n (actsV l)) : n = l.length := by
  have := h.1
  rw [actsV_length] at this
  omega
theorem act_at {w : World} {B n k : Nat} {A : Option Addr} {l : List (Int × Int)} (h : Reads w B 2 A n (actsV l)) (hk : k < l.length) :
    ∃ b o, A = some ⟨b, o, none⟩ ∧ b < B ∧ w.cell? ⟨b, o + k * 2, none⟩ = some (.int .i64 l[k].1) ∧ w.cell? ⟨b, o + k * 2 + 1, none⟩ = some (.int .i64 l[k].2) := by
  obtain ⟨b, o, rfl, hb, hc⟩ := h.elem actC_length (by decide) (act_len h) hk
  exact ⟨b, o, rfl, hb, hc 0 _ rfl, hc 1 _ rfl⟩
theorem arg_acts {H : Type} {enc : TypeId × Value → H} {P : Program} {W : World} {base : Nat} {t e : TypeId} {fs : Array Field} {v : Value} {d : DataW H} {p : List MemPlace} (ht : P.underlying t = some (.slice e)) (he : P.underlying e = some (.struct fs)) (hone : oneCellFields P fs = true) (hC : P.cellsOf e = 2) (hsz : fs.size = 2)
    (hints : fs.all (fun f => isI64 (P.underlying f.type)) = true)
    (hv : Value.okWide P W .any base t v) (h : DataW.Trod enc P W 0 (fun _ => true) true t v d p) :
    ∃ (A : Option Addr) (c : Nat) (l : List (Int × Int)), v = .slice A l.length c ∧ (l.length ≤ maxLen ∧ l.length ≤ c) ∧ ActsOk l ∧ Reads W W.heap.size 2 A l.length (actsV l) := by
  obtain ⟨A, c, rows, rfl, hl, hr, hR⟩ := arg_rows ht he hone (by rw [hC, hsz]) (nums_of hints) (by omega) hv h
  refine ⟨A, c, rows.map fun r => (r.getD 0 0, r.getD 1 0), by simp, by simpa using hl, fun a ha => ?_, ?_⟩
  · obtain ⟨r, hr', rfl⟩ := List.mem_map.1 ha
    obtain ⟨q1, q2⟩ := hr r hr'
    rw [hsz] at q1
    match r, q1 with
    | [a, b], _ => exact ⟨q2 a (by simp), q2 b (by simp)⟩
  · have e1 : (rows.flatMap fun r => r.map i64v) = actsV (rows.map fun r => (r.getD 0 0, r.getD 1 0)) := by
      unfold actsV
      rw [List.flatMap_map]
      have : ∀ rs : List (List Int), (∀ r ∈ rs, r.length = 2) → (rs.flatMap fun r => r.map i64v) = rs.flatMap fun r => actC (r.getD 0 0, r.getD 1 0) := by
        intro rs
        induction rs with
        | nil => intro _; rfl
        | cons r rs ih =>
          intro hrs
          have h2 : r.map i64v = actC (r.getD 0 0, r.getD 1 0) := by
            have := hrs r (by simp)
            match r, this with
            | [a, b], _ => rfl
          rw [List.flatMap_cons, List.flatMap_cons, h2, ih (fun r' hr' => hrs r' (by simp [hr']))]
      exact this rows fun r hr' => (hr r hr').1.trans hsz
    rw [e1, hsz] at hR
    simpa using hR
end Go.Fw
