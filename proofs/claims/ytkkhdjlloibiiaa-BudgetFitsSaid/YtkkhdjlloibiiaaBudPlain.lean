/-
  Chapter 51 in plain Lean: who gets how much. Condition: none.
-/
import Derived.Test.YtkkhdjlloibiiaaArgs
import Derived.Test.YtkkhdjlloibiiaaSat
namespace Go.Fw
open Go.RowKit Go.WideShapes Go.ChangeShapes Go.Deep Go.Joins
set_option linter.unusedVariables false

structure Wnt where
  mn : Int
  want : Int
  deriving DecidableEq
def Wnt.cells (a : Wnt) : List Value := [.int .i64 a.mn, .int .i64 a.want]
def wnts (l : List Wnt) : List Value := l.flatMap Wnt.cells
structure Wnt.ok (a : Wnt) : Prop where
  mn : In64 a.mn
  want : In64 a.want
theorem Wnt.cells_length (a : Wnt) : a.cells.length = 2 := rfl
theorem wnts_length (l : List Wnt) : (wnts l).length = l.length * 2 := flat_length _ 2 Wnt.cells_length l
theorem wnt_len {w : World} {B n : Nat} {A : Option Addr} {l : List Wnt} (h : Reads w B 2 A n (wnts l)) : n = l.length := by
  have := h.1
  rw [wnts_length] at this
  omega
theorem wnt_at {w : World} {B n k : Nat} {A : Option Addr} {l : List Wnt} (h : Reads w B 2 A n (wnts l)) (hk : k < l.length) :
    ∃ b o, A = some ⟨b, o, none⟩ ∧ b < B ∧ w.cell? ⟨b, o + k * 2, none⟩ = some (.int .i64 l[k].mn) ∧ w.cell? ⟨b, o + k * 2 + 1, none⟩ = some (.int .i64 l[k].want) := by
  obtain ⟨b, o, rfl, hb, hc⟩ := h.elem Wnt.cells_length (by decide) (wnt_len h) hk
  exact ⟨b, o, rfl, hb, hc 0 _ rfl, hc 1 _ rfl⟩
theorem wnts_snoc (l : List Wnt) (a : Wnt) : wnts l ++ a.cells = wnts (l ++ [a]) := by simp [wnts]
theorem wnts_one (a : Wnt) : ∀ u ∈ a.cells, u.oneCell' = true := by intro u hu; simp [Wnt.cells] at hu; rcases hu with rfl | rfl <;> rfl

/-- a slice of structs that came in -/
theorem arg_recs {α : Type} (f : α → List Value) (to : List Int → α) (s : Nat) (hto : ∀ r : List Int, r.length = s → r.map i64v = f (to r)) (hs : 0 < s)
    {H : Type} {enc : TypeId × Value → H} {P : Program} {W : World} {base : Nat} {t e : TypeId} {fs : Array Field} {v : Value} {d : DataW H} {p : List MemPlace} (ht : P.underlying t = some (.slice e)) (he : P.underlying e = some (.struct fs)) (hone : oneCellFields P fs = true) (hC : P.cellsOf e = s) (hsz : fs.size = s)
    (hints : fs.all (fun f => isI64 (P.underlying f.type)) = true)
    (hv : Value.okWide P W .any base t v) (h : DataW.Trod enc P W 0 (fun _ => true) true t v d p) :
    ∃ (A : Option Addr) (c : Nat) (l : List α), v = .slice A l.length c ∧ (l.length ≤ maxLen ∧ l.length ≤ c) ∧ (∀ a ∈ l, ∃ r : List Int, r.length = s ∧ (∀ n ∈ r, In64 n) ∧ a = to r) ∧ Reads W W.heap.size s A l.length (l.flatMap f) := by
  obtain ⟨A, c, rows, rfl, hl, hr, hR⟩ := arg_rows ht he hone (by rw [hC, hsz]) (nums_of hints) (by omega) hv h
  refine ⟨A, c, rows.map to, by simp, by simpa using hl, fun a ha => ?_, ?_⟩
  · obtain ⟨r, hr', rfl⟩ := List.mem_map.1 ha
    exact ⟨r, (hr r hr').1.trans hsz, (hr r hr').2, rfl⟩
  · have e1 : (rows.flatMap fun r => r.map i64v) = (rows.map to).flatMap f := by
      rw [List.flatMap_map]
      have : ∀ rs : List (List Int), (∀ r ∈ rs, r.length = s) → (rs.flatMap fun r => r.map i64v) = rs.flatMap fun r => f (to r) := by
        intro rs
        induction rs with
        | nil => intro _; rfl
        | cons r rs ih =>
          intro hrs
          rw [List.flatMap_cons, List.flatMap_cons, hto r (hrs r (by simp)), ih (fun r' hr' => hrs r' (by simp [hr']))]
      exact this rows fun r hr' => (hr r hr').1.trans hsz
    rw [e1, hsz] at hR
    simpa using hR
def toWnt (r : List Int) : Wnt := ⟨r.getD 0 0, r.getD 1 0⟩
theorem toWnt_cells {r : List Int} (h : r.length = 2) : r.map i64v = (toWnt r).cells := by
  match r, h with
  | [a, b], _ => rfl
theorem arg_wnts {H : Type} {enc : TypeId × Value → H} {P : Program} {W : World} {base : Nat} {t e : TypeId} {fs : Array Field} {v : Value} {d : DataW H} {p : List MemPlace} (ht : P.underlying t = some (.slice e)) (he : P.underlying e = some (.struct fs)) (hone : oneCellFields P fs = true) (hC : P.cellsOf e = 2) (hsz : fs.size = 2)
    (hints : fs.all (fun f => isI64 (P.underlying f.type)) = true)
    (hv : Value.okWide P W .any base t v) (h : DataW.Trod enc P W 0 (fun _ => true) true t v d p) :
    ∃ (A : Option Addr) (c : Nat) (l : List Wnt), v = .slice A l.length c ∧ (l.length ≤ maxLen ∧ l.length ≤ c) ∧ (∀ a ∈ l, a.ok) ∧ Reads W W.heap.size 2 A l.length (wnts l) := by
  obtain ⟨A, c, l, rfl, hl, hok, hr⟩ := arg_recs Wnt.cells toWnt 2 (fun _ => toWnt_cells) (by decide) ht he hone hC hsz hints hv h
  refine ⟨A, c, l, rfl, hl, fun a ha => ?_, hr⟩
  obtain ⟨r, h1, h2, rfl⟩ := hok a ha
  match r, h1 with
  | [a, b], _ => exact ⟨h2 a (by simp), h2 b (by simp)⟩
/-- a list of policies that came in; the first number alone counts -/
structure Pol where
  q : Int × Int × Int × Int × Int × Int
def Pol.cells (p : Pol) : List Value := [.int .i64 p.q.1, .int .i64 p.q.2.1, .int .i64 p.q.2.2.1, .int .i64 p.q.2.2.2.1, .int .i64 p.q.2.2.2.2.1, .int .i64 p.q.2.2.2.2.2]
def pols (l : List Pol) : List Value := l.flatMap Pol.cells
theorem Pol.cells_length (a : Pol) : a.cells.length = 6 := rfl
theorem pols_length (l : List Pol) : (pols l).length = l.length * 6 := flat_length _ 6 Pol.cells_length l
theorem pol_len {w : World} {B n : Nat} {A : Option Addr} {l : List Pol} (h : Reads w B 6 A n (pols l)) : n = l.length := by
  have := h.1
  rw [pols_length] at this
  omega
theorem pol_at {w : World} {B n k : Nat} {A : Option Addr} {l : List Pol} (h : Reads w B 6 A n (pols l)) (hk : k < l.length) :
    ∃ b o, A = some ⟨b, o, none⟩ ∧ b < B ∧ w.cell? ⟨b, o + k * 6, none⟩ = some (.int .i64 l[k].q.1) := by
  obtain ⟨b, o, rfl, hb, hc⟩ := h.elem Pol.cells_length (by decide) (pol_len h) hk
  exact ⟨b, o, rfl, hb, hc 0 _ rfl⟩
def toPol (r : List Int) : Pol := ⟨r.getD 0 0, r.getD 1 0, r.getD 2 0, r.getD 3 0, r.getD 4 0, r.getD 5 0⟩
theorem toPol_cells {r : List Int} (h : r.length = 6) : r.map i64v = (toPol r).cells := by
  match r, h with
  | [a, b, c, d, e, f], _ => rfl
theorem arg_pols {H : Type} {enc : TypeId × Value → H} {P : Program} {W : World} {base : Nat} {t e : TypeId} {fs : Array Field} {v : Value} {d : DataW H} {p : List MemPlace} (ht : P.underlying t = some (.slice e)) (he : P.underlying e = some (.struct fs)) (hone : oneCellFields P fs = true) (hC : P.cellsOf e = 6) (hsz : fs.size = 6)
    (hints : fs.all (fun f => isI64 (P.underlying f.type)) = true)
    (hv : Value.okWide P W .any base t v) (h : DataW.Trod enc P W 0 (fun _ => true) true t v d p) :
    ∃ (A : Option Addr) (c : Nat) (l : List Pol), v = .slice A l.length c ∧ (l.length ≤ maxLen ∧ l.length ≤ c) ∧ (∀ a ∈ l, In64 a.q.1) ∧ Reads W W.heap.size 6 A l.length (pols l) := by
  obtain ⟨A, c, l, rfl, hl, hok, hr⟩ := arg_recs Pol.cells toPol 6 (fun _ => toPol_cells) (by decide) ht he hone hC hsz hints hv h
  refine ⟨A, c, l, rfl, hl, fun a ha => ?_, hr⟩
  obtain ⟨r, h1, h2, rfl⟩ := hok a ha
  match r, h1 with
  | [a, b, c, d, e, f], _ => exact h2 a (by simp)

/-! what is wrong -/
def bck (total : Int) : Int → List Wnt → Int
  | needs, [] => if total < needs then 12 else 0
  | needs, x :: r => if x.mn < 0 ∨ x.want < x.mn then 4 else bck total (sat (needs + x.mn)) r
def bcheck (total : Int) (l : List Wnt) : Int := if total < 0 ∨ 4096 < total ∨ 64 < l.length then 1 else bck total 0 l
theorem bck_bad {total needs : Int} {l : List Wnt} {k : Nat} (hk : k < l.length) (h : l[k].mn < 0 ∨ l[k].want < l[k].mn) : bck total needs (l.drop k) = 4 := by
  rw [List.drop_eq_getElem_cons hk, bck, if_pos h]
theorem bck_on {total needs : Int} {l : List Wnt} {k : Nat} (hk : k < l.length) (h : ¬ (l[k].mn < 0 ∨ l[k].want < l[k].mn)) : bck total needs (l.drop k) = bck total (sat (needs + l[k].mn)) (l.drop (k + 1)) := by
  rw [List.drop_eq_getElem_cons hk, bck, if_neg h]
def sumZ : List Int → Int
  | [] => 0
  | x :: r => x + sumZ r
theorem sumZ_app (a b : List Int) : sumZ (a ++ b) = sumZ a + sumZ b := by
  induction a with
  | nil => simp [sumZ]
  | cons x a ih => simp only [List.cons_append, sumZ, ih]; omega
theorem sumZ_take {l : List Int} {k : Nat} (hk : k < l.length) : sumZ (l.take (k + 1)) = sumZ (l.take k) + l[k] := by
  rw [List.take_succ_eq_append_getElem hk, sumZ_app]
  simp [sumZ]
theorem sumZ_nonneg {l : List Int} (h : ∀ x ∈ l, 0 ≤ x) : 0 ≤ sumZ l := by
  induction l with
  | nil => simp [sumZ]
  | cons x l ih => have := h x (by simp); have := ih fun y hy => h y (by simp [hy]); simp only [sumZ]; omega
theorem bck_zero {total : Int} (l : List Wnt) : ∀ needs, 0 ≤ needs → needs ≤ 9223372036854775807 → total ≤ 4096 → bck total needs l = 0 → (∀ x ∈ l, 0 ≤ x.mn ∧ x.mn ≤ x.want) ∧ needs + sumZ (l.map Wnt.mn) ≤ total := by
  induction l with
  | nil =>
    intro needs h0 h1 ht h
    rw [bck] at h
    split at h
    · cases h
    · exact ⟨by simp, by simp [sumZ]; omega⟩
  | cons x r ih =>
    intro needs h0 h1 ht h
    rw [bck] at h
    split at h
    · cases h
    · rename_i hx
      by_cases hb : 9223372036854775807 < needs + x.mn
      · exfalso
        rw [sat_hi _ hb] at h
        obtain ⟨h2, h3⟩ := ih _ (by decide) (by decide) ht h
        have := sumZ_nonneg (l := r.map Wnt.mn) (by intro y hy; obtain ⟨z, hz, rfl⟩ := List.mem_map.1 hy; exact (h2 z hz).1)
        omega
      · rw [sat_id _ ⟨by omega, by omega⟩] at h
        obtain ⟨h2, h3⟩ := ih _ (by omega) (by omega) ht h
        refine ⟨fun y hy => ?_, by simp only [List.map_cons, sumZ]; omega⟩
        rcases List.mem_cons.1 hy with rfl | hy
        · omega
        · exact h2 y hy
theorem bcheck_zero {total : Int} {l : List Wnt} (h : bcheck total l = 0) : 0 ≤ total ∧ total ≤ 4096 ∧ l.length ≤ 64 ∧ (∀ x ∈ l, 0 ≤ x.mn ∧ x.mn ≤ x.want) ∧ sumZ (l.map Wnt.mn) ≤ total := by
  unfold bcheck at h
  split at h
  · cases h
  · obtain ⟨h1, h2⟩ := bck_zero l 0 (by omega) (by omega) (by omega) h
    exact ⟨by omega, by omega, by omega, h1, by omega⟩

/-! who lacks the most -/
def needF : Nat → Int → Int → List Int → Int
  | _, best, _, [] => best
  | k, best, most, x :: r => if most < x then needF (k + 1) k x r else needF (k + 1) best most r
def needL (ls : List Int) : Int := needF 0 (-1) 0 ls
theorem needF_yes {ls : List Int} {k : Nat} (best most : Int) (hk : k < ls.length) (h : most < ls[k]) : needF k best most (ls.drop k) = needF (k + 1) k ls[k] (ls.drop (k + 1)) := by
  rw [List.drop_eq_getElem_cons hk, needF, if_pos h]
theorem needF_no {ls : List Int} {k : Nat} (best most : Int) (hk : k < ls.length) (h : ¬ most < ls[k]) : needF k best most (ls.drop k) = needF (k + 1) best most (ls.drop (k + 1)) := by
  rw [List.drop_eq_getElem_cons hk, needF, if_neg h]
/-- the best so far, and how much it lacks -/
def BestOf (ls : List Int) (k : Nat) (best most : Int) : Prop :=
  (best = -1 ∧ most = 0 ∧ ∀ j (h : j < ls.length), j < k → ls[j] ≤ 0) ∨ (∃ b : Nat, ∃ h : b < ls.length, b < k ∧ best = b ∧ most = ls[b] ∧ 0 < most ∧ ∀ j (h : j < ls.length), j < k → ls[j] ≤ most)
theorem BestOf.yes {ls : List Int} {k : Nat} {best most : Int} (h : BestOf ls k best most) (hlt : k < ls.length) (hm : most < ls[k]) : BestOf ls (k + 1) k ls[k] := by
  refine .inr ⟨k, hlt, by omega, rfl, rfl, ?_, fun j hj hjk => ?_⟩
  · rcases h with ⟨_, h, _⟩ | ⟨_, _, _, _, _, h, _⟩ <;> omega
  · by_cases e : j = k
    · subst e; exact Int.le_refl _
    · rcases h with ⟨_, h0, h⟩ | ⟨_, _, _, _, _, _, h⟩
      · have := h j hj (by omega); omega
      · have := h j hj (by omega); omega
theorem BestOf.no {ls : List Int} {k : Nat} {best most : Int} (h : BestOf ls k best most) (hlt : k < ls.length) (hm : ¬ most < ls[k]) : BestOf ls (k + 1) best most := by
  rcases h with ⟨h1, h0, h⟩ | ⟨b, h1, h2, h3, h4, h5, h⟩
  · refine .inl ⟨h1, h0, fun j hj hjk => ?_⟩
    by_cases e : j = k
    · subst e; omega
    · exact h j hj (by omega)
  · refine .inr ⟨b, h1, by omega, h3, h4, h5, fun j hj hjk => ?_⟩
    by_cases e : j = k
    · subst e; omega
    · exact h j hj (by omega)
theorem needF_best (ls : List Int) : ∀ (n k : Nat) (best most : Int), k + n = ls.length → BestOf ls k best most → ∃ m, BestOf ls ls.length (needF k best most (ls.drop k)) m := by
  intro n
  induction n with
  | zero =>
    intro k best most hk h
    have : k = ls.length := by omega
    subst this
    rw [List.drop_length]
    exact ⟨most, h⟩
  | succ n ih =>
    intro k best most hk h
    have hlt : k < ls.length := by omega
    by_cases hm : most < ls[k]
    · rw [needF_yes best most hlt hm]
      refine ih (k + 1) _ _ (by omega) (.inr ⟨k, hlt, by omega, rfl, rfl, ?_, fun j hj hjk => ?_⟩)
      · rcases h with ⟨_, h, _⟩ | ⟨_, _, _, _, _, h, _⟩ <;> omega
      · by_cases e : j = k
        · subst e; exact Int.le_refl _
        · rcases h with ⟨_, h0, h⟩ | ⟨_, _, _, _, _, _, h⟩
          · have := h j hj (by omega); omega
          · have := h j hj (by omega); omega
    · rw [needF_no best most hlt hm]
      refine ih (k + 1) _ _ (by omega) ?_
      rcases h with ⟨h1, h0, h⟩ | ⟨b, h1, h2, h3, h4, h5, h⟩
      · refine .inl ⟨h1, h0, fun j hj hjk => ?_⟩
        by_cases e : j = k
        · subst e; omega
        · exact h j hj (by omega)
      · refine .inr ⟨b, h1, by omega, h3, h4, h5, fun j hj hjk => ?_⟩
        by_cases e : j = k
        · subst e; omega
        · exact h j hj (by omega)
theorem needL_best (ls : List Int) : ∃ m, BestOf ls ls.length (needL ls) m := needF_best ls ls.length 0 _ _ (by omega) (.inl ⟨rfl, rfl, fun j _ h => by omega⟩)
theorem needL_cases (ls : List Int) : (needL ls = -1 ∧ ∀ j (h : j < ls.length), ls[j] ≤ 0) ∨ (∃ b : Nat, ∃ h : b < ls.length, needL ls = b ∧ 0 < ls[b] ∧ ∀ j (h : j < ls.length), ls[j] ≤ ls[b]) := by
  obtain ⟨m, h⟩ := needL_best ls
  rcases h with ⟨h1, _, h3⟩ | ⟨b, hb, _, h2, h3, h4, h5⟩
  · exact .inl ⟨h1, fun j hj => h3 j hj hj⟩
  · subst h3; exact .inr ⟨b, hb, h2, h4, fun j hj => h5 j hj hj⟩

/-! shares -/
def lacksL (l : List Wnt) (has : List Int) : List Int := List.zipWith (fun w h => w.want - h) l has
def shareF : Nat → List Wnt → List Int → List Int
  | 0, _, has => has
  | f + 1, l, has => if needL (lacksL l has) < 0 then has else shareF f l (has.set (needL (lacksL l has)).toNat (has.getD (needL (lacksL l has)).toNat 0 + 1))
def shareL (total : Int) (l : List Wnt) : List Int := shareF (total - sumZ (l.map Wnt.mn)).toNat l (l.map Wnt.mn)
/-- what holds of shares all along -/
structure ShInv (l : List Wnt) (has : List Int) : Prop where
  len : has.length = l.length
  at_ : ∀ k (h : k < l.length) (h' : k < has.length), 0 ≤ l[k].mn ∧ l[k].mn ≤ has[k] ∧ has[k] ≤ l[k].want ∧ l[k].want ≤ 9223372036854775807
theorem lacksL_length {l : List Wnt} {has : List Int} (h : has.length = l.length) : (lacksL l has).length = l.length := by unfold lacksL; simp; omega
theorem lacksL_get {l : List Wnt} {has : List Int} {k : Nat} (h : k < (lacksL l has).length) (h1 : k < l.length) (h2 : k < has.length) : (lacksL l has)[k] = l[k].want - has[k] := by
  simp [lacksL]
theorem ShInv.start {l : List Wnt} (h : ∀ x ∈ l, 0 ≤ x.mn ∧ x.mn ≤ x.want) (hok : ∀ x ∈ l, x.ok) : ShInv l (l.map Wnt.mn) := by
  refine ⟨by simp, fun k hk hk' => ?_⟩
  have h1 := h _ (List.getElem_mem hk)
  have h2 := (hok _ (List.getElem_mem hk)).want
  unfold In64 at h2
  simp only [List.getElem_map]
  omega
theorem ShInv.step {l : List Wnt} {has : List Int} (h : ShInv l has) {b : Nat} (hb : b < l.length) (hb' : b < has.length) (hp : 0 < l[b].want - has[b]) : ShInv l (has.set b (has[b] + 1)) := by
  refine ⟨by simp [h.len], fun k hk hk' => ?_⟩
  have := h.at_ k hk (by simpa using hk')
  rw [List.getElem_set]
  split
  · rename_i e; subst e; omega
  · exact this
theorem shareF_length (l : List Wnt) : ∀ (f : Nat) (has : List Int), (shareF f l has).length = has.length := by
  intro f
  induction f with
  | zero => intro has; rfl
  | succ f ih => intro has; rw [shareF]; split; rfl; rw [ih]; simp
theorem shareL_length (total : Int) (l : List Wnt) : (shareL total l).length = l.length := by unfold shareL; rw [shareF_length]; simp
theorem shareF_end {l : List Wnt} {has : List Int} (f : Nat) (h : needL (lacksL l has) < 0) : shareF f l has = has := by
  cases f with
  | zero => rfl
  | succ f => rw [shareF, if_pos h]
theorem shareF_on {l : List Wnt} {has : List Int} (f b : Nat) (h : needL (lacksL l has) = b) (hb : b < has.length) : shareF (f + 1) l has = shareF f l (has.set b (has[b] + 1)) := by
  rw [shareF, h, if_neg (by omega)]
  simp [hb]
end Go.Fw
