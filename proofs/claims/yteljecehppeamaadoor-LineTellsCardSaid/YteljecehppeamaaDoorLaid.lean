/-
  What a row that lists strconv's variables gives the walks. Condition: none.
-/
import Derived.Test.YteljecehppeamaaDoorTabs
import Derived.Test.YteljecehppeamaaDoorChecked
import Derived.Test.YteljecehppeamaaDoorRows
import Derived.Stop.LaidErr
import Derived.LaidMore
import Derived.MakeChecks
import Derived.PinnedBridge
namespace Go.Fw
open Go.RowKit
set_option linter.unusedVariables false
theorem laid_at {P : Program} {W : World} {x : String × DataW Unit} : ∀ {l : List (String × DataW Unit)}, laidMet P l W → x ∈ l → ∃ r, laidMet P (x :: r) W
  | [], _, h => by cases h
  | y :: r, hl, h => by
    rcases List.mem_cons.1 h with rfl | h
    · exact ⟨r, hl⟩
    · exact laid_at hl.tail h
end Go.Fw
namespace Go.Proofs.YteljecehppeamaaDoor
open Go.RowKit Go.Fw
set_option linter.unusedVariables false
theorem star : "*errors.errorString" = "*" ++ "errors.errorString" := rfl
theorem rowErr (u : TypeId) (h : Tryd.prog.typeName? 3 u = some "*errors.errorString") : u = 136 :=
  typeName_ptr_named (nm := "errors.errorString") (by rw [← star]; kernel_rfl) (by kernel_rfl) (by decide) u (by rw [← star]; exact h)
theorem pow_data : (Rows.laid_internal_strconv_uint64pow10 : DataW Unit) = Lib.tabData .u64 Lib.pow10Tab := by kernel_rfl
theorem tabs_of {W : World} {l : List (String × DataW Unit)} (h : laidMetH Tryd.prog l W) (hp : (l.all fun x => x.2.handleName?.isNone) = true)
    (m1 : ("internal/strconv.uint64pow10", Rows.laid_internal_strconv_uint64pow10) ∈ l) (m2 : ("strconv.ErrSyntax", Rows.laid_strconv_ErrSyntax) ∈ l) (m3 : ("strconv.ErrRange", Rows.laid_strconv_ErrRange) ∈ l) : Tabs Tryd.prog W := by
  rw [MakeChecks.laidMetH_plain _ _ _ hp] at h
  obtain ⟨r1, h1⟩ := laid_at h m1
  obtain ⟨r2, h2⟩ := laid_at h m2
  obtain ⟨r3, h3⟩ := laid_at h m3
  rw [pow_data] at h1
  have hu : Tryd.prog.underlying 55 = some (.interface ((Tryd.prog.underlying 55).elim #[] fun d => match d with | .interface ms => ms | _ => #[])) := by kernel_rfl
  obtain ⟨a2, s2, v2, _⟩ := laid_sentinel h2 (g := 1) (ti := 55) (te := 138) (ts := 9) (f := ((Tryd.prog.underlying 138).bind fun d => match d with | .struct fs => fs[0]? | _ => none).getD default) (by kernel_rfl) (by kernel_rfl) hu rowErr (by kernel_rfl) (by kernel_rfl) (by kernel_rfl) (by kernel_rfl) (by kernel_rfl) (by kernel_rfl) (by kernel_rfl)
  obtain ⟨a3, s3, v3, _⟩ := laid_sentinel h3 (g := 2) (ti := 55) (te := 138) (ts := 9) (f := ((Tryd.prog.underlying 138).bind fun d => match d with | .struct fs => fs[0]? | _ => none).getD default) (by kernel_rfl) (by kernel_rfl) hu rowErr (by kernel_rfl) (by kernel_rfl) (by kernel_rfl) (by kernel_rfl) (by kernel_rfl) (by kernel_rfl) (by kernel_rfl)
  exact ⟨Lib.tabIs_of_head (g := 0) (t := 122) (e := 101) (n := 20) (by kernel_rfl) (by kernel_rfl) (by kernel_rfl) (by kernel_rfl) (by kernel_rfl) (by kernel_rfl) h1, ⟨_, _, v2⟩, ⟨_, _, v3⟩⟩
end Go.Proofs.YteljecehppeamaaDoor
