/-
  strconv's Itoa and Atoi, as the walks want them. Condition: the table and the errors lie in memory.
-/
import Derived.Test.YtenjhklkljeijaaDoorTabs
import Derived.Shelf.Lay
import Derived.Shelf.Strconv.Itoa3
import Derived.Shelf.Strconv.AtoiAll
import Derived.Shelf.Strconv.ErrVarAll
import Derived.Ground.NamesProg
namespace Go.Proofs
open Go.Shelf
shelf_lay LaysM.n171 Nm 171 at Tryd as Tryd.litoa
shelf_lay LaysC.n172 Nm 172 at Tryd as Tryd.latoi
end Go.Proofs
namespace Go.Proofs.YtenjhklkljeijaaDoor
open Go.RowKit Go.Shelf Go.Fw
set_option linter.unusedVariables false
theorem itoa_any (n : Int) (hn : In64 n) (w : World) (hT : Tabs Tryd.prog w) :
    Calls Tryd.prog 24 #[.int .i64 n] w fun e w' => e = .returned (.string (decB n)) ∧ Below w.heap.size w w' := by
  have h := Any.strconv_Itoa Tryd.litoa n hn.1 hn.2 w hT.pow
  change Calls Tryd.prog 24 _ _ _ at h
  exact h.mono fun e w' ⟨h1, k, os, h2⟩ => ⟨h1, below_grow h2⟩
theorem atoi_any (s : ByteArray) (hs : s.size ≤ 1000000) (w : World) (hT : Tabs Tryd.prog w) :
    Calls Tryd.prog 27 #[.string s] w fun e w' => ∃ n ok, (∃ ev, e = .returned (.tuple #[.int .i64 n, ev]) ∧ ((ok = true ∧ ev = .nilIface) ∨ (ok = false ∧ ∃ t p, ev = .iface t p))) ∧ readsAs s n ok ∧ Below w.heap.size w w' := by
  obtain ⟨_, ⟨t2, p2, h2⟩, ⟨t3, p3, h3⟩⟩ := hT
  cases hk : Lib.atoiAll s.data.toList
  · rename_i v
    have h := Any.strconv_Atoi_ok Tryd.latoi s (by omega) v hk w
    change Calls Tryd.prog 27 _ _ _ at h
    exact h.mono fun e w' ⟨h1, h2⟩ => ⟨v, true, ⟨_, h1, .inl ⟨rfl, rfl⟩⟩, ⟨Lib.atoiAll_bounds hk, fun _ => hk, (fun h => by cases h)⟩, below_bytes h2⟩
  · have h := Any.strconv_Atoi_syntax_var Tryd.latoi s (by omega) hk t2 p2 w h2
    change Calls Tryd.prog 27 _ _ _ at h
    exact h.mono fun e w' ⟨N, h1, _, _, h4⟩ => ⟨0, false, ⟨_, h1, .inr ⟨rfl, _, _, rfl⟩⟩, ⟨by unfold In64; omega, (fun h => by cases h), (fun _ v e => by rw [hk] at e; cases e)⟩, h4⟩
  · have h := Any.strconv_Atoi_range_var Tryd.latoi s (by omega) hk t3 p3 w h3
    change Calls Tryd.prog 27 _ _ _ at h
    exact h.mono fun e w' ⟨N, h1, _, _, h4⟩ => ⟨_, false, ⟨_, h1, .inr ⟨rfl, _, _, rfl⟩⟩, ⟨Lib.atoiSat_bounds _, (fun h => by cases h), (fun _ v e => by rw [hk] at e; cases e)⟩, h4⟩
end Go.Proofs.YtenjhklkljeijaaDoor
