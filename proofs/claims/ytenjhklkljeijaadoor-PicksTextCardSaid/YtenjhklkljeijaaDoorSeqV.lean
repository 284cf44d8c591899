/-
  A range over a function whose iterator writes a variable of its own between two rounds: what the caller holds must outlast such a write ('Tch'). Condition: none.
-/
import Derived.Test.YtenjhklkljeijaaDoorBase
import Derived.RangeFuncWrites
import Derived.RangeFuncNested
import Derived.RangeFuncBound
import Derived.RangeFuncCalls
import Derived.RangeFuncLeaves
import Derived.RangeFuncBox
import Derived.Shelf.Abstract
import Derived.OwnWalkIn
import Derived.TacticsInMore
import Derived.LoopNIn
import Derived.LoopIn
namespace Go.Fw
open Go.RowKit
set_option linter.unusedVariables false
variable {F : Fence} {n : Nat} {P : Program}
/-- what an iterator owes whose own writes are Tch -/
def SeqV {α : Type} (F : Fence) (n : Nat) (P : Program) (g : Nat) (lb : Array Value) (encs : α → Array Value) (Kp Tch : World → World → Prop) (S Sp Ok : List α → Prop) (w : World) : Prop :=
  ∀ (l : Nat) (J Jx : List α → World → Prop) (W : World), Below w.heap.size w W → AbidesFrom W.heap.size J → AbidesFrom W.heap.size Jx →
    (∀ pre A B, J pre A → Tch A B → J pre B) → (∀ pre A B, Jx pre A → Tch A B → Jx pre B) →
    (∀ pre x W1, J pre W1 → Ok (pre ++ [x]) → YieldAt F (n - 1) P l (encs x) W1 fun e W' =>
      (e = .returned (.bool true) ∧ J (pre ++ [x]) W' ∧ Kp W1 W') ∨ (e = .returned (.bool false) ∧ Jx (pre ++ [x]) W')) →
    J [] W →
    CallsIn F n P g (#[.func (.yield l) #[] #[]] ++ lb) W fun e W' => (∃ v, e = .returned v) ∧ ((∃ xs, S xs ∧ J xs W') ∨ (∃ pre, Sp pre ∧ Jx pre W'))

/-- the law: as the kit's for iterators that write nothing, but that I and Ix outlast Tch, and that Tch leaves alone what is no cells from the loop's block on -/
theorem wpIn_range_V {α : Type} {g : Operand} {ps : Array Tmp} {assign body : Code} {Q : Exit → Act → World → Prop} {a : Act} {w : World}
    (hro : F.round = none) (h1 : 1 ≤ n) {gf : Nat} {lb : Array Value} (hg : a.eval g = .func (.func gf) #[] lb) (hFg : F.fn gf) (eg : ∀ args w, (callFunc gf args).run P w = .ok (.enter gf args) w)
    {encs : α → Array Value} {Kp Tch : World → World → Prop} {S Sp Ok : List α → Prop} {w0 : World} (hseq : SeqV F (n - 1) P gf lb encs Kp Tch S Sp Ok w0)
    (hKt : ∀ {A B C : World}, Kp A B → Kp B C → Kp A C) (hKb : ∀ (W : World) (l : Nat) (o o' : Obj), w.heap.size ≤ l → W.heap[l]? = some o → o.isCells = false → o.isWalk = false → Kp W (W.putObj l o')) (hb0 : Below w0.heap.size w0 w) (hps : ∀ x, (encs x).size = ps.size)
    (I : List α → World → Prop) (Ix : Code → List α → World → Prop) (hI : OwnFrom w.heap.size I) (hIx : ∀ c, OwnFrom w.heap.size (Ix c))
    (hIT : ∀ pre A B, I pre A → Tch A B → I pre B) (hIxT : ∀ c pre A B, Ix c pre A → Tch A B → Ix c pre B) (hTk : ∀ A B k, Tch A B → w.heap.size ≤ k → B.heap[k]? = A.heap[k]?)
    (h0 : I [] w) (a₁ : α → Act)
    (hassign : ∀ (l : Nat) (x : α) (W : World) (K : Act → World → Prop), K (a₁ x) W →
      assign.wpIn (F.inRound l) (n - 1 - 1) P (Exit.then K (fun _ _ _ => False)) { tmps := (ps.zip (encs x)).foldl (fun t (p, v) => t.setIfInBounds p v) a.tmps, defers := [] } W)
    (hbody : ∀ (l : Nat) (pre : List α) (x : α) (W : World), I pre W → Ok (pre ++ [x]) → body.wpIn (F.inRound l) (n - 1 - 1) P (ownPostG w.heap.size Kp I Ix (pre ++ [x]) W) (a₁ x) W)
    (hdone : ∀ (D : Nat) (xs : List α) (W : World), w.heap.size ≤ D → S xs → I xs W → W.heap[D]? = some (.deferred (some [])) → Q .normal { a with defers := { target := .collected D, args := #[] } :: a.defers } W)
    (hstop : ∀ (D : Nat) (c : Code) (pre : List α) (W : World), w.heap.size ≤ D → Sp pre → Ix c pre W → W.heap[D]? = some (.deferred (some [])) → c.wpIn F n P Q { a with defers := { target := .collected D, args := #[] } :: a.defers } W) :
    (Code.rangeFunc g ps assign body).wpIn F n P Q a w := by
  -- the kit's law, asked of a contract that holds for what outlasts Tch alone, goes by its own proof's steps
  refine wpIn_rangeFunc fun fn hfn => ?_
  rw [hro]
  let rec_ : LoopState → Option Code → Loop := fun st pe => { state := st, pending := pe, fn, tmps := a.tmps, params := ps, assign, body, defers := w.heap.size }
  let W1 := (w.alloc (.deferred (some []))).alloc (.loop (rec_ .ready none))
  have hz : W1.heap.size = w.heap.size + 2 := by simp [W1]
  have hL1 : W1.heap[w.heap.size + 1]? = some (.loop (rec_ .ready none)) := by
    have := World.alloc_heap_new (w.alloc (.deferred (some []))) (.loop (rec_ .ready none))
    rwa [World.size_alloc] at this
  have hD1 : W1.heap[w.heap.size]? = some (.deferred (some [])) := (Below.heap_alloc _ _ _ (by simp)).trans (World.alloc_heap_new w _)
  have hb1 : Below w0.heap.size w0 W1 := hb0.trans ((((Below.refl _ w).alloc (Nat.le_refl _) _).alloc (by simp) _).mono hb0.size)
  -- what the law itself carries beside the caller's word
  let Bk : Loop → World → Prop := fun r W => W.heap[w.heap.size + 1]? = some (.loop r) ∧ W.heap[w.heap.size]? = some (.deferred (some []))
  have bkKeep : ∀ {r : Loop} {A B : World} {row : Option Nat}, Bk r A → A.grownBy B row → (∀ q, row = some q → ∃ o : Obj, A.heap[q]? = some o ∧ o.isWalk = true) → Bk r B := fun hs hg' hr =>
    ⟨(grownBy_keeps hg' hr hs.1 rfl).trans hs.1, (grownBy_keeps hg' hr hs.2 rfl).trans hs.2⟩
  have cells : ∀ {A : World} {row : Option Nat}, (∀ q, row = some q → W1.heap.size ≤ q ∧ ∃ o : Obj, A.heap[q]? = some o ∧ o.isWalk = true) → ∀ q, row = some q → w.heap.size ≤ q ∧ ∃ o : Obj, A.heap[q]? = some o ∧ o.isCells = false := fun hr q e => by
    obtain ⟨h2, o, ho, hw⟩ := hr q e
    exact ⟨by omega, o, ho, Obj.not_cells_of_walk hw⟩
  refine ⟨w.heap.size + 1, [{ target := .collected w.heap.size, args := #[] }], W1, { target := .fn (.func gf) lb, args := #[.func (.yield (w.heap.size + 1)) #[] #[]] }, W1, gf,
    #[.func (.yield (w.heap.size + 1)) #[] #[]] ++ lb, W1, run_enterLoop_outer _ _ _ _ _, by simp only [resolve, hg]; simp [go_sem], fun f' hf' => by simp [Target.leads] at hf'; subst hf'; exact hFg,
    by simp [invoke, go_sem, eg], fun _ => h1, ?_⟩
  refine (hseq (w.heap.size + 1) (fun pre W => I pre W ∧ Bk (rec_ .ready none) W) (fun pre W => ∃ c, Ix c pre W ∧ Bk (rec_ .done (some c)) W) W1 hb1
    (fun s A B row hs hg' hr => ⟨hI s A B row hs.1 hg' (cells hr), bkKeep hs.2 hg' fun q e => (hr q e).2⟩)
    (fun s A B row hs hg' hr => hs.elim fun c hc => ⟨c, hIx c s A B row hc.1 hg' (cells hr), bkKeep hc.2 hg' fun q e => (hr q e).2⟩)
    (fun pre A B hs ht => ⟨hIT pre A B hs.1 ht, (hTk A B _ ht (by omega)).trans hs.2.1, (hTk A B _ ht (Nat.le_refl _)).trans hs.2.2⟩)
    (fun pre A B hs ht => hs.elim fun c hc => ⟨c, hIxT c pre A B hc.1 ht, (hTk A B _ ht (by omega)).trans hc.2.1, (hTk A B _ ht (Nat.le_refl _)).trans hc.2.2⟩)
    ?round ⟨hI.alloc _ (hI.alloc _ h0), hL1, hD1⟩).mono ?behind
  case round =>
    rintro pre x W ⟨hi, hl, hk⟩ hlen
    have hlt : w.heap.size + 1 < W.heap.size := (Array.getElem?_eq_some_iff.1 hl).1
    have hy := run_yield (P := P) (args := encs x) hl (hps x)
    refine ⟨fn, _, assign, body, hy, roundIn_of_wpIn hfn (hassign _ x W _ ⟨_, run_beginRound hl rfl, ?_⟩)⟩
    let W2 := W.putObj (w.heap.size + 1) (.loop { rec_ .ready none with state := .busy })
    have hl2 : W2.heap[w.heap.size + 1]? = some (.loop { rec_ .ready none with state := .busy }) := World.putObj_heap_same hlt
    have hk2 : W2.heap[w.heap.size]? = some (.deferred (some [])) := (World.putObj_heap_other (by omega)).trans hk
    have hw2 : Kp W W2 := hKb _ _ _ _ (by omega) hl rfl rfl
    refine wpIn_mono (hbody _ pre x _ (hI.putObj _ hi (by omega) hl rfl) hlen) ?_
    have fin : ∀ (jump : Option Code) (W3 : World), KeepsFrom w.heap.size W2 W3 →
        (Instr.endRound (w.heap.size + 1) jump).run P W3 = .ok (.bool jump.isNone) (W3.putObj (w.heap.size + 1) (.loop (rec_ (if jump.isNone then .ready else .done) jump))) ∧
        W3.heap[w.heap.size + 1]? = some (.loop { rec_ .ready none with state := .busy }) ∧ Bk (rec_ (if jump.isNone then .ready else .done) jump) (W3.putObj (w.heap.size + 1) (.loop (rec_ (if jump.isNone then .ready else .done) jump))) := fun jump W3 hk3 => by
      have hl3 := hk3.same _ _ (by omega) hl2 rfl
      exact ⟨run_endRound (P := P) jump hl3, hl3, World.putObj_heap_same (Array.getElem?_eq_some_iff.1 hl3).1, (World.putObj_heap_other (by omega)).trans (hk3.same _ _ (Nat.le_refl _) hk2 rfl)⟩
    have out : ∀ (c : Code) (W3 : World), KeepsFrom w.heap.size W2 W3 → Ix c (pre ++ [x]) W3 → ∃ b W4, (Instr.endRound (w.heap.size + 1) (some c)).run P W3 = .ok (.bool b) W4 ∧ b = false ∧ Ix c (pre ++ [x]) W4 ∧ Bk (rec_ .done (some c)) W4 := fun c W3 hk3 hi3 => by
      obtain ⟨hr, hl3, hb3⟩ := fin (some c) W3 hk3
      exact ⟨_, _, hr, rfl, (hIx c).putObj _ hi3 (by omega) hl3 rfl, hb3⟩
    rintro e a3 W3 hp
    cases e with
    | normal =>
      obtain ⟨hk3, hkp3, hi3⟩ := hp
      obtain ⟨hr, hl3, hb3⟩ := fin none W3 hk3
      exact ⟨_, _, hr, .inl ⟨rfl, ⟨hI.putObj _ hi3 (by omega) hl3 rfl, hb3⟩, hKt (hKt hw2 hkp3) (hKb _ _ _ _ (by omega) hl3 rfl rfl)⟩⟩
    | ret =>
      obtain ⟨_, W4, hr, rfl, hi4, hb4⟩ := out .ret W3 hp.1 hp.2
      exact ⟨_, _, hr, .inr ⟨rfl, .ret, hi4, hb4⟩⟩
    | exit id =>
      obtain ⟨_, W4, hr, rfl, hi4, hb4⟩ := out (.exit id) W3 hp.1 hp.2
      exact ⟨_, _, hr, .inr ⟨rfl, .exit id, hi4, hb4⟩⟩
    | goto t =>
      obtain ⟨_, W4, hr, rfl, hi4, hb4⟩ := out (.goto t) W3 hp.1 hp.2
      exact ⟨_, _, hr, .inr ⟨rfl, .goto t, hi4, hb4⟩⟩
    | panic ch => exact hp.elim
    | outgrown => exact hp.elim
  case behind =>
    rintro e W2 ⟨⟨v, rfl⟩, h⟩
    rcases h with ⟨xs, hS, hi, hl, hk⟩ | ⟨pre, hSp, c, hi, hl, hk⟩
    · exact ⟨none, _, run_endLoop (P := P) hl (by simp [rec_]), hdone _ xs _ (Nat.le_refl _) hS (hI.putObj _ hi (by omega) hl rfl) ((World.putObj_heap_other (by omega)).trans hk)⟩
    · exact ⟨some c, _, run_endLoop (P := P) hl (by simp [rec_]), hstop _ c pre _ (Nat.le_refl _) hSp ((hIx c).putObj _ hi (by omega) hl rfl) ((World.putObj_heap_other (by omega)).trans hk)⟩
end Go.Fw
