/-
  Arguments that are shapes: five numbers each. Condition: none.
-/
import Derived.Test.YtcmnlnnhebdblaaDoorArgs
import Derived.Test.YtcmnlnnhebdblaaDoorShPlain
namespace Go.Fw
open Go.RowKit Go.WideShapes Go.ChangeShapes Go.Deep Go.Joins
theorem arg_sh {H : Type} {enc : TypeId × Value → H} {P : Program} {W : World} {base : Nat} {t : TypeId} {fs : Array Field} {v : Value} {d : DataW H} {p : List MemPlace} (ht : P.underlying t = some (.struct fs)) (hone : oneCellFields P fs = true) (hC : P.cellsOf t = 5) (hsz : fs.size = 5)
    (hints : fs.all (fun f => isI64 (P.underlying f.type)) = true)
    (hv : Value.okWide P W .any base t v) (h : DataW.Trod enc P W 0 (fun _ => true) true t v d p) :
    ∃ (q0 q1 q2 q3 q4 : Int), v = .agg #[.int .i64 q0, .int .i64 q1, .int .i64 q2, .int .i64 q3, .int .i64 q4] ∧ In5 q0 q1 q2 q3 q4 := by
  obtain ⟨r, h1, rfl, h3⟩ := arg_agg ht hone (by rw [hC, hsz]) (nums_of hints) hv h
  rw [hsz] at h1
  match r, h1 with
  | [a, b, c, d, e], _ => exact ⟨a, b, c, d, e, rfl, h3 a (by simp), h3 b (by simp), h3 c (by simp), h3 d (by simp), h3 e (by simp)⟩
end Go.Fw
