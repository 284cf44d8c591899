/-
  The walk of HistoryKeeps, whatever the input. Condition: none.
-/
import Derived.Test.YtgmgddccdfmiiaaHisK
namespace Go.Fw
open Go.RowKit Go.WideShapes Go.ChangeShapes Go.Deep Go.Joins
set_option linter.unusedVariables false
section
variable {H : Type} {enc : TypeId × Value → H} {P : Program} {W : World}
theorem arg_adv {base : Nat} {t : TypeId} {fs : Array Field} {v : Value} {d : DataW H} {p : List MemPlace} (ht : P.underlying t = some (.struct fs)) (hone : oneCellFields P fs = true) (hC : P.cellsOf t = 5) (hsz : fs.size = 5)
    (hints : fs.all (fun f => isI64 (P.underlying f.type)) = true)
    (hv : Value.okWide P W .any base t v) (h : DataW.Trod enc P W 0 (fun _ => true) true t v d p) :
    ∃ a : Adv, v = a.val ∧ a.ok := by
  obtain ⟨r, h1, rfl, h3⟩ := arg_agg ht hone (by rw [hC, hsz]) (nums_of hints) hv h
  rw [hsz] at h1
  match r, h1 with
  | [a, b, c, d, e], _ => exact ⟨⟨a, b, c, d, e⟩, rfl, ⟨h3 a (by simp), h3 b (by simp), h3 c (by simp), h3 d (by simp), h3 e (by simp)⟩⟩
end
end Go.Fw
namespace Go.Proofs.Ytgmgddccdfmiiaa
open Go.RowKit Go.Fw
set_option linter.unusedVariables false
theorem historyKeeps_walk (room : Int) (l : List Adv) (A : Option Addr) (c : Nat) (a : Adv) (W : World) (hn : -9223372036854775808 ≤ room ∧ room ≤ 9223372036854775807) (hR : Reads W W.heap.size 5 A l.length (advs l)) (hok : ∀ x ∈ l, x.ok) (hl : l.length ≤ maxLen ∧ l.length ≤ c) (ha : a.ok) :
    Calls Try.prog 9 #[.int .i64 room, .slice A l.length c, a.val] W fun e w' => e = .returned (.bool true) ∧ Below W.heap.size W w' := by
  by_cases h100 : 100 < l.length
  · exact hkeeps_long room l A c a W h100 hl.1
  · by_cases hr : 1 ≤ room ∧ room ≤ 64
    · obtain ⟨n, rfl⟩ : ∃ n : Nat, room = (n : Int) := ⟨room.toNat, by omega⟩
      exact hkeeps_yes n l A c a W hR (by omega) (by omega) (by omega)
    · exact hkeeps_none room l A c a W (by omega) hr
end Go.Proofs.Ytgmgddccdfmiiaa
