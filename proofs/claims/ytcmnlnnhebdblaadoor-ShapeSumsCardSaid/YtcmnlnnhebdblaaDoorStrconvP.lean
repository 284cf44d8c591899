/-
  strconv.ParseInt to the base ten at 64 bits, and strings.Split at one sign, as the walks want them. Condition: the table and the errors lie in memory.
-/
import Derived.Test.YtcmnlnnhebdblaaDoorTabs
import Derived.Test.YtcmnlnnhebdblaaDoorWords
import Derived.Shelf.Strconv.ErrVarParseInt
import Derived.Shelf.Strings.SplitShaped
namespace Go.Proofs
open Go.Shelf
def Tryd.lpint_ren : Go.Shelf.Ren := ⟨fun | 174 => 22 | 247 => 31 | 245 => 32 | 287 => 46 | 279 => 47 | 280 => 48 | 281 => 49 | 282 => 50 | 321 => 62 | 322 => 63 | 316 => 64 | 171 => 66 | 205 => 65 | 243 => 74 | 246 => 26 | 283 => 37 | 284 => 38 | 285 => 39 | 286 => 40 | 129 => 52 | 317 => 51 | 318 => 53 | 319 => 54 | 320 => 55 | 337 => 67 | 338 => 68 | n => n, fun | 9 => 9 | 3 => 3 | 2 => 2 | 75 => 58 | 85 => 59 | 4 => 4 | 167 => 87 | 5 => 5 | 53 => 71 | 175 => 88 | 46 => 90 | 168 => 91 | 37 => 62 | 0 => 0 | 210 => 112 | 21 => 21 | 127 => 84 | 145 => 117 | 143 => 115 | 171 => 79 | 173 => 82 | 212 => 96 | 51 => 97 | 20 => 20 | 213 => 98 | 232 => 118 | 233 => 119 | 80 => 68 | n => n, fun | 15 => 1 | 16 => 2 | 17 => 0 | 18 => 4 | 19 => 5 | n => n⟩
theorem Tryd.lpint : Go.Proofs.LaysC.n174 Tryd.prog Tryd.lpint_ren := {
  mixed := by kernel_rfl
  f129 := Tryd.func52.trans (congrArg some (by kernel_rfl))
  f171 := Tryd.func66.trans (congrArg some (by kernel_rfl))
  f174 := Tryd.func22.trans (congrArg some (by kernel_rfl))
  f205 := Tryd.func65.trans (congrArg some (by kernel_rfl))
  f243 := Tryd.func74.trans (congrArg some (by kernel_rfl))
  f245 := Tryd.func32.trans (congrArg some (by kernel_rfl))
  f246 := Tryd.func26.trans (congrArg some (by kernel_rfl))
  f247 := Tryd.func31.trans (congrArg some (by kernel_rfl))
  f279 := Tryd.func47.trans (congrArg some (by kernel_rfl))
  f280 := Tryd.func48.trans (congrArg some (by kernel_rfl))
  f281 := Tryd.func49.trans (congrArg some (by kernel_rfl))
  f282 := Tryd.func50.trans (congrArg some (by kernel_rfl))
  f283 := Tryd.func37.trans (congrArg some (by kernel_rfl))
  f284 := Tryd.func38.trans (congrArg some (by kernel_rfl))
  f285 := Tryd.func39.trans (congrArg some (by kernel_rfl))
  f286 := Tryd.func40.trans (congrArg some (by kernel_rfl))
  f287 := Tryd.func46.trans (congrArg some (by kernel_rfl))
  f316 := Tryd.func64.trans (congrArg some (by kernel_rfl))
  f317 := Tryd.func51.trans (congrArg some (by kernel_rfl))
  f318 := Tryd.func53.trans (congrArg some (by kernel_rfl))
  f319 := Tryd.func54.trans (congrArg some (by kernel_rfl))
  f320 := Tryd.func55.trans (congrArg some (by kernel_rfl))
  f321 := Tryd.func62.trans (congrArg some (by kernel_rfl))
  f322 := Tryd.func63.trans (congrArg some (by kernel_rfl))
  f337 := Tryd.func67.trans (congrArg some (by kernel_rfl))
  f338 := Tryd.func68.trans (congrArg some (by kernel_rfl))
  t0 := Tryd.underlying0
  a0 := Tryd.isAgg0
  z0 := Tryd.sizeOf0
  v0 := Tryd.zeroValue0
  t2 := Tryd.underlying2
  a2 := Tryd.isAgg2
  z2 := Tryd.sizeOf2
  v2 := Tryd.zeroValue2
  t3 := Tryd.underlying3
  a3 := Tryd.isAgg3
  z3 := Tryd.sizeOf3
  v3 := Tryd.zeroValue3
  t4 := Tryd.underlying4
  a4 := Tryd.isAgg4
  z4 := Tryd.sizeOf4
  v4 := Tryd.zeroValue4
  t5 := Tryd.underlying5
  a5 := Tryd.isAgg5
  z5 := Tryd.sizeOf5
  v5 := Tryd.zeroValue5
  t9 := Tryd.underlying9
  a9 := Tryd.isAgg9
  z9 := Tryd.sizeOf9
  v9 := Tryd.zeroValue9
  t20 := Tryd.underlying20
  a20 := Tryd.isAgg20
  z20 := Tryd.sizeOf20
  v20 := Tryd.zeroValue20
  t21 := Tryd.underlying21
  a21 := Tryd.isAgg21
  z21 := Tryd.sizeOf21
  v21 := Tryd.zeroValue21
  t37 := Tryd.underlying62
  a37 := Tryd.isAgg62
  z37 := Tryd.sizeOf62
  v37 := Tryd.zeroValue62
  t46 := Tryd.underlying90
  a46 := Tryd.isAgg90
  z46 := Tryd.sizeOf90
  v46 := Tryd.zeroValue90
  t51 := Tryd.underlying97
  a51 := Tryd.isAgg97
  z51 := Tryd.sizeOf97
  v51 := Tryd.zeroValue97
  t53 := Tryd.underlying71
  a53 := Tryd.isAgg71
  z53 := Tryd.sizeOf71
  v53 := Tryd.zeroValue71
  t75 := Tryd.underlying58
  a75 := Tryd.isAgg58
  z75 := Tryd.sizeOf58
  v75 := Tryd.zeroValue58
  t85 := Tryd.underlying59
  a85 := Tryd.isAgg59
  z85 := Tryd.sizeOf59
  v85 := Tryd.zeroValue59
  t127 := Tryd.underlying84
  a127 := Tryd.isAgg84
  z127 := Tryd.sizeOf84
  v127 := Tryd.zeroValue84
  t143 := Tryd.underlying115
  a143 := Tryd.isAgg115
  z143 := Tryd.sizeOf115
  v143 := Tryd.zeroValue115
  t145 := Tryd.underlying117
  a145 := Tryd.isAgg117
  z145 := Tryd.sizeOf117
  v145 := Tryd.zeroValue117
  t167 := Tryd.underlying87
  a167 := Tryd.isAgg87
  z167 := Tryd.sizeOf87
  v167 := Tryd.zeroValue87
  t168 := Tryd.underlying91
  a168 := Tryd.isAgg91
  z168 := Tryd.sizeOf91
  v168 := Tryd.zeroValue91
  t171 := Tryd.underlying79
  a171 := Tryd.isAgg79
  z171 := Tryd.sizeOf79
  v171 := Tryd.zeroValue79
  t173 := Tryd.underlying82
  a173 := Tryd.isAgg82
  z173 := Tryd.sizeOf82
  v173 := Tryd.zeroValue82
  t175 := Tryd.underlying88
  a175 := Tryd.isAgg88
  z175 := Tryd.sizeOf88
  v175 := Tryd.zeroValue88
  t210 := Tryd.underlying112
  a210 := Tryd.isAgg112
  z210 := Tryd.sizeOf112
  v210 := Tryd.zeroValue112
  t212 := Tryd.underlying96
  a212 := Tryd.isAgg96
  z212 := Tryd.sizeOf96
  v212 := Tryd.zeroValue96
  t213 := Tryd.underlying98
  a213 := Tryd.isAgg98
  z213 := Tryd.sizeOf98
  t232 := Tryd.underlying118
  a232 := Tryd.isAgg118
  z232 := Tryd.sizeOf118
  v232 := Tryd.zeroValue118
  t233 := Tryd.underlying119
  a233 := Tryd.isAgg119
  z233 := Tryd.sizeOf119
  v233 := Tryd.zeroValue119
  g15 := by kernel_rfl
  g16 := by kernel_rfl
  g17 := by kernel_rfl
  g18 := by kernel_rfl
  g19 := by kernel_rfl
  t80 := Tryd.underlying68
  a80 := Tryd.isAgg68
  z80 := Tryd.sizeOf68
  v80 := Tryd.zeroValue68
  i0 := by kernel_rfl
  i2 := by kernel_rfl
  i3 := by kernel_rfl
  i4 := by kernel_rfl
  i5 := by kernel_rfl
  i9 := by kernel_rfl
  i20 := by kernel_rfl
  i21 := by kernel_rfl
  i37 := by kernel_rfl
  i46 := by kernel_rfl
  i51 := by kernel_rfl
  i53 := by kernel_rfl
  i75 := by kernel_rfl
  i80 := by kernel_rfl
  i85 := by kernel_rfl
  i127 := by kernel_rfl
  i143 := by kernel_rfl
  i145 := by kernel_rfl
  i167 := by kernel_rfl
  i168 := by kernel_rfl
  i171 := by kernel_rfl
  i173 := by kernel_rfl
  i175 := by kernel_rfl
  i210 := by kernel_rfl
  i212 := by kernel_rfl
  i232 := by kernel_rfl
  i233 := by kernel_rfl
  m15 := by kernel_rfl
  m16 := by kernel_rfl
  m17 := by kernel_rfl
  m18 := by kernel_rfl
  m19 := by kernel_rfl
  c0 := by kernel_rfl
  c2 := by kernel_rfl
  c3 := by kernel_rfl
  c4 := by kernel_rfl
  c5 := by kernel_rfl
  c9 := by kernel_rfl
  c20 := by kernel_rfl
  c21 := by kernel_rfl
  c37 := by kernel_rfl
  c46 := by kernel_rfl
  c51 := by kernel_rfl
  c53 := by kernel_rfl
  c75 := by kernel_rfl
  c80 := by kernel_rfl
  c85 := by kernel_rfl
  c127 := by kernel_rfl
  c143 := by kernel_rfl
  c145 := by kernel_rfl
  c167 := by kernel_rfl
  c168 := by kernel_rfl
  c171 := by kernel_rfl
  c173 := by kernel_rfl
  c175 := by kernel_rfl
  c210 := by kernel_rfl
  c212 := by kernel_rfl
  c213 := by kernel_rfl
  c232 := by kernel_rfl
  c233 := by kernel_rfl }
def Tryd.lsplit_ren : Go.Shelf.Ren := ⟨fun | 146 => 21 | 221 => 30 | 268 => 43 | 138 => 44 | 143 => 45 | 195 => 58 | 197 => 59 | 218 => 60 | 219 => 61 | 260 => 69 | 217 => 70 | 225 => 71 | 224 => 72 | 267 => 73 | 266 => 75 | 314 => 76 | n => n, fun | 9 => 9 | 31 => 49 | 3 => 3 | 4 => 4 | 0 => 0 | 105 => 105 | 21 => 21 | 5 => 5 | 46 => 90 | 119 => 120 | 139 => 123 | 138 => 122 | 146 => 124 | 51 => 97 | n => n, fun | 1 => 3 | 3 => 6 | 4 => 7 | n => n⟩
theorem Tryd.lsplit : Go.Proofs.LaysM.n146 Tryd.prog Tryd.lsplit_ren := {
  mixed := by kernel_rfl
  f138 := Tryd.func44.trans (congrArg some (by kernel_rfl))
  f143 := Tryd.func45.trans (congrArg some (by kernel_rfl))
  f146 := Tryd.func21.trans (congrArg some (by kernel_rfl))
  f195 := Tryd.func58.trans (congrArg some (by kernel_rfl))
  f197 := Tryd.func59.trans (congrArg some (by kernel_rfl))
  f217 := Tryd.func70.trans (congrArg some (by kernel_rfl))
  f218 := Tryd.func60.trans (congrArg some (by kernel_rfl))
  f219 := Tryd.func61.trans (congrArg some (by kernel_rfl))
  f221 := Tryd.func30.trans (congrArg some (by kernel_rfl))
  f224 := Tryd.func72.trans (congrArg some (by kernel_rfl))
  f225 := Tryd.func71.trans (congrArg some (by kernel_rfl))
  f260 := Tryd.func69.trans (congrArg some (by kernel_rfl))
  f266 := Tryd.func75.trans (congrArg some (by kernel_rfl))
  f267 := Tryd.func73.trans (congrArg some (by kernel_rfl))
  f268 := Tryd.func43.trans (congrArg some (by kernel_rfl))
  f314 := Tryd.func76.trans (congrArg some (by kernel_rfl))
  t0 := Tryd.underlying0
  a0 := Tryd.isAgg0
  z0 := Tryd.sizeOf0
  v0 := Tryd.zeroValue0
  t3 := Tryd.underlying3
  a3 := Tryd.isAgg3
  z3 := Tryd.sizeOf3
  v3 := Tryd.zeroValue3
  t4 := Tryd.underlying4
  a4 := Tryd.isAgg4
  z4 := Tryd.sizeOf4
  v4 := Tryd.zeroValue4
  t5 := Tryd.underlying5
  a5 := Tryd.isAgg5
  z5 := Tryd.sizeOf5
  v5 := Tryd.zeroValue5
  t9 := Tryd.underlying9
  a9 := Tryd.isAgg9
  z9 := Tryd.sizeOf9
  v9 := Tryd.zeroValue9
  t21 := Tryd.underlying21
  a21 := Tryd.isAgg21
  z21 := Tryd.sizeOf21
  v21 := Tryd.zeroValue21
  t31 := Tryd.underlying49
  a31 := Tryd.isAgg49
  z31 := Tryd.sizeOf49
  v31 := Tryd.zeroValue49
  t46 := Tryd.underlying90
  a46 := Tryd.isAgg90
  z46 := Tryd.sizeOf90
  v46 := Tryd.zeroValue90
  t51 := Tryd.underlying97
  a51 := Tryd.isAgg97
  z51 := Tryd.sizeOf97
  v51 := Tryd.zeroValue97
  t105 := Tryd.underlying105
  a105 := Tryd.isAgg105
  z105 := Tryd.sizeOf105
  v105 := Tryd.zeroValue105
  t119 := Tryd.underlying120
  a119 := Tryd.isAgg120
  z119 := Tryd.sizeOf120
  t138 := Tryd.underlying122
  a138 := Tryd.isAgg122
  z138 := Tryd.sizeOf122
  v138 := Tryd.zeroValue122
  t139 := Tryd.underlying123
  a139 := Tryd.isAgg123
  z139 := Tryd.sizeOf123
  v139 := Tryd.zeroValue123
  t146 := Tryd.underlying124
  a146 := Tryd.isAgg124
  z146 := Tryd.sizeOf124
  v146 := Tryd.zeroValue124
  g1 := by kernel_rfl
  g3 := by kernel_rfl
  g4 := by kernel_rfl
  i0 := by kernel_rfl
  i3 := by kernel_rfl
  i4 := by kernel_rfl
  i5 := by kernel_rfl
  i9 := by kernel_rfl
  i21 := by kernel_rfl
  i31 := by kernel_rfl
  i46 := by kernel_rfl
  i51 := by kernel_rfl
  i105 := by kernel_rfl
  i138 := by kernel_rfl
  i139 := by kernel_rfl
  i146 := by kernel_rfl
  m1 := by kernel_rfl
  s1_3 := fun w h => Go.Proofs.cell_of_shapedOpen_int (zero := #[.int .i64 0]) (t := 3) h (of_decide_eq_true (by kernel_rfl)) (by kernel_rfl) rfl (by kernel_rfl) (by kernel_rfl) Tryd.underlying3
  m3 := by kernel_rfl
  m4 := by kernel_rfl }
end Go.Proofs
namespace Go.Fw
open Go.RowKit
theorem splitB_words (c : UInt8) : ∀ (n : Nat) (s : ByteArray), s.size ≤ n → Lib.splitB ⟨#[c]⟩ 0 (Lib.countB s ⟨#[c]⟩) s = wordsB c s := by
  intro n
  have one : ∀ s : ByteArray, Lib.indexB s ⟨#[c]⟩ = Lib.indexByte s.data.toList c := fun s => by
    rw [Lib.one s ⟨#[c]⟩ rfl]
    congr 1
    exact Lib.byte_back c
  have sz : (⟨#[c]⟩ : ByteArray).size = 1 := rfl
  induction n with
  | zero =>
    intro s hs
    rcases indexByte_cases c s.data.toList with ⟨h, _⟩ | ⟨i, h, hlt, _⟩
    · rw [Lib.countB_miss _ _ ((one s).trans h), Lib.splitB_zero, wordsB_miss h]
    · have : s.data.toList.length = s.size := rfl
      omega
  | succ n ih =>
    intro s hs
    rcases indexByte_cases c s.data.toList with ⟨h, _⟩ | ⟨i, h, hlt, _⟩
    · rw [Lib.countB_miss _ _ ((one s).trans h), Lib.splitB_zero, wordsB_miss h]
    · have h2 := (one s).trans h
      rw [Lib.countB_hit _ _ i (by rw [sz]; decide) h2, Nat.add_comm 1, Lib.splitB_hit _ _ _ _ i h2, (wordsB_hit h).2, sz, Nat.add_zero]
      congr 1
      refine ih _ ?_
      rw [ByteArray.size_extract]
      have : s.data.toList.length = s.size := rfl
      omega
theorem countB_words (c : UInt8) (s : ByteArray) : Lib.countB s ⟨#[c]⟩ + 1 = (wordsB c s).length := by
  rw [← splitB_words c s.size s (Nat.le_refl _)]
  exact (Lib.splitB_all ⟨#[c]⟩ (Nat.le_refl 1) 0 _ s rfl).symm
end Go.Fw
namespace Go.Proofs.YtcmnlnnhebdblaaDoor
open Go.RowKit Go.Shelf Go.Fw
set_option linter.unusedVariables false
/-- what lies in memory ahead of a call of strings.Split: a bound, some number -/
def HasMax (w : World) : Prop := ∃ m, w.cell? ⟨3, 0, none⟩ = some (.int .i64 m)
theorem hasMax_of {w : World} (h : w.ShapedOpen Tryd.prog) : HasMax w := Tryd.lsplit.s1_3 w h
theorem hasMax_up {w w' : World} (h : HasMax w) (hb : Below w.heap.size w w') : HasMax w' := by
  obtain ⟨m, hm⟩ := h
  exact ⟨m, (World.cell?_of_block (hb.block _ (World.block_lt_of_cell? w _ hm))).trans hm⟩
theorem split_any (c : UInt8) (s : ByteArray) (hs : s.size ≤ 100000) (w : World) (hM : HasMax w) :
    Calls Tryd.prog 21 #[.string s, .string ⟨#[c]⟩] w fun e w' => e = .returned (.slice (some ⟨w.heap.size, 0, none⟩) (wordsB c s).length (wordsB c s).length) ∧ w' = w.alloc (.cells ((wordsB c s).map Value.string).toArray 9) := by
  obtain ⟨m, hm⟩ := hM
  have h := Any.strings_Split { Tryd.lsplit with } Tryd.lsplit.i9 s ⟨#[c]⟩ m w (by omega) hm (Nat.le_refl 1)
  change Calls Tryd.prog 21 _ _ _ at h
  refine h.mono fun e w' ⟨h1, h2⟩ => ?_
  rw [countB_words] at h1
  rw [splitB_words c s.size s (Nat.le_refl _)] at h2
  exact ⟨h1, h2⟩
theorem pint_any (s : ByteArray) (hs : s.size ≤ 1000000) (w : World) (hT : Tabs Tryd.prog w) :
    Calls Tryd.prog 22 #[.string s, .int .i64 10, .int .i64 64] w fun e w' => ∃ n ok, (∃ ev, e = .returned (.tuple #[.int .i64 n, ev]) ∧ ((ok = true ∧ ev = .nilIface) ∨ (ok = false ∧ ∃ t p, ev = .iface t p))) ∧ readsAs s n ok ∧ Below w.heap.size w w' := by
  obtain ⟨_, ⟨t2, p2, h2⟩, ⟨t3, p3, h3⟩⟩ := hT
  have e64 := Lib.parseIntB_64 s.data.toList
  cases hk : Lib.parseIntB 64 s.data.toList
  · rename_i v
    have h := Any.strconv_ParseInt_10_at64_ok Tryd.lpint s (by omega) v hk w
    change Calls Tryd.prog 22 _ _ _ at h
    rw [e64] at hk
    exact h.mono fun e w' ⟨h1, h2⟩ => ⟨v, true, ⟨_, h1, .inl ⟨rfl, rfl⟩⟩, ⟨Lib.atoiAll_bounds hk, fun _ => hk, (fun h => by cases h)⟩, below_bytes h2⟩
  · have h := Any.strconv_ParseInt_10_at64_syntax_var Tryd.lpint s (by omega) hk t2 p2 w h2
    change Calls Tryd.prog 22 _ _ _ at h
    rw [e64] at hk
    exact h.mono fun e w' ⟨N, h1, _, _, h4⟩ => ⟨0, false, ⟨_, h1, .inr ⟨rfl, _, _, rfl⟩⟩, ⟨by unfold In64; omega, (fun h => by cases h), (fun _ v e => by rw [hk] at e; cases e)⟩, h4⟩
  · have h := Any.strconv_ParseInt_10_at64_range_var Tryd.lpint s (by omega) hk t3 p3 w h3
    change Calls Tryd.prog 22 _ _ _ at h
    rw [e64] at hk
    exact h.mono fun e w' ⟨N, h1, _, _, h4⟩ => ⟨_, false, ⟨_, h1, .inr ⟨rfl, _, _, rfl⟩⟩, ⟨by rw [Lib.intSat_64]; exact Lib.atoiSat_bounds _, (fun h => by cases h), (fun _ v e => by rw [hk] at e; cases e)⟩, h4⟩
/-- what lies in memory ahead of a call of Parse -/
structure Ready (w : World) : Prop where
  tabs : Tabs Tryd.prog w
  max : HasMax w
theorem Ready.up {w w' : World} (h : Ready w) (hb : Below w.heap.size w w') : Ready w' := ⟨h.tabs.up hb, hasMax_up h.max hb⟩
end Go.Proofs.YtcmnlnnhebdblaaDoor
