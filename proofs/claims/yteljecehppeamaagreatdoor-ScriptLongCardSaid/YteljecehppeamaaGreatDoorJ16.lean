/-
  4 texts of this claim, joined; each says itself what it proves. Condition: as each text says.
-/
import Derived.Test.YteljecehppeamaaGreatDoorJ04
import Derived.Test.YteljecehppeamaaGreatDoorJ02
import Derived.Shelf.Strconv.ErrVarParseInt
import Derived.Shelf.Strings.SplitShaped
import Derived.Test.YteljecehppeamaaGreatDoorJ07
import Derived.Test.YteljecehppeamaaGreatDoorJ05
/-
  strconv.ParseInt to the base ten at 64 bits, and strings.Split at one sign, as the walks want them. Condition: the table and the errors lie in memory.
-/
namespace Go.Proofs
open Go.Shelf
def Tryz.lpint_ren : Go.Shelf.Ren := ⟨fun | 174 => 100 | 247 => 107 | 245 => 99 | 287 => 112 | 279 => 108 | 280 => 109 | 281 => 110 | 282 => 111 | 321 => 115 | 322 => 116 | 316 => 113 | 171 => 22 | 205 => 114 | 243 => 42 | 246 => 59 | 283 => 70 | 284 => 71 | 285 => 72 | 286 => 73 | 129 => 87 | 317 => 86 | 318 => 88 | 319 => 89 | 320 => 90 | 337 => 102 | 338 => 103 | n => n, fun | 9 => 9 | 3 => 3 | 2 => 2 | 75 => 57 | 85 => 137 | 4 => 4 | 167 => 146 | 5 => 5 | 53 => 93 | 175 => 152 | 46 => 132 | 168 => 147 | 37 => 52 | 0 => 0 | 210 => 156 | 21 => 21 | 127 => 82 | 145 => 161 | 143 => 159 | 171 => 110 | 173 => 113 | 212 => 129 | 51 => 130 | 20 => 20 | 213 => 131 | 232 => 150 | 233 => 151 | 80 => 45 | n => n, fun | 15 => 6 | 16 => 7 | 17 => 1 | 18 => 4 | 19 => 5 | n => n⟩
theorem Tryz.lpint : Go.Proofs.LaysC.n174 Tryz.prog Tryz.lpint_ren := {
  mixed := by kernel_rfl
  f129 := Tryz.func87.trans (congrArg some (by kernel_rfl))
  f171 := Tryz.func22.trans (congrArg some (by kernel_rfl))
  f174 := Tryz.func100.trans (congrArg some (by kernel_rfl))
  f205 := Tryz.func114.trans (congrArg some (by kernel_rfl))
  f243 := Tryz.func42.trans (congrArg some (by kernel_rfl))
  f245 := Tryz.func99.trans (congrArg some (by kernel_rfl))
  f246 := Tryz.func59.trans (congrArg some (by kernel_rfl))
  f247 := Tryz.func107.trans (congrArg some (by kernel_rfl))
  f279 := Tryz.func108.trans (congrArg some (by kernel_rfl))
  f280 := Tryz.func109.trans (congrArg some (by kernel_rfl))
  f281 := Tryz.func110.trans (congrArg some (by kernel_rfl))
  f282 := Tryz.func111.trans (congrArg some (by kernel_rfl))
  f283 := Tryz.func70.trans (congrArg some (by kernel_rfl))
  f284 := Tryz.func71.trans (congrArg some (by kernel_rfl))
  f285 := Tryz.func72.trans (congrArg some (by kernel_rfl))
  f286 := Tryz.func73.trans (congrArg some (by kernel_rfl))
  f287 := Tryz.func112.trans (congrArg some (by kernel_rfl))
  f316 := Tryz.func113.trans (congrArg some (by kernel_rfl))
  f317 := Tryz.func86.trans (congrArg some (by kernel_rfl))
  f318 := Tryz.func88.trans (congrArg some (by kernel_rfl))
  f319 := Tryz.func89.trans (congrArg some (by kernel_rfl))
  f320 := Tryz.func90.trans (congrArg some (by kernel_rfl))
  f321 := Tryz.func115.trans (congrArg some (by kernel_rfl))
  f322 := Tryz.func116.trans (congrArg some (by kernel_rfl))
  f337 := Tryz.func102.trans (congrArg some (by kernel_rfl))
  f338 := Tryz.func103.trans (congrArg some (by kernel_rfl))
  t0 := Tryz.underlying0
  a0 := Tryz.isAgg0
  z0 := Tryz.sizeOf0
  v0 := Tryz.zeroValue0
  t2 := Tryz.underlying2
  a2 := Tryz.isAgg2
  z2 := Tryz.sizeOf2
  v2 := Tryz.zeroValue2
  t3 := Tryz.underlying3
  a3 := Tryz.isAgg3
  z3 := Tryz.sizeOf3
  v3 := Tryz.zeroValue3
  t4 := Tryz.underlying4
  a4 := Tryz.isAgg4
  z4 := Tryz.sizeOf4
  v4 := Tryz.zeroValue4
  t5 := Tryz.underlying5
  a5 := Tryz.isAgg5
  z5 := Tryz.sizeOf5
  v5 := Tryz.zeroValue5
  t9 := Tryz.underlying9
  a9 := Tryz.isAgg9
  z9 := Tryz.sizeOf9
  v9 := Tryz.zeroValue9
  t20 := Tryz.underlying20
  a20 := Tryz.isAgg20
  z20 := Tryz.sizeOf20
  v20 := Tryz.zeroValue20
  t21 := Tryz.underlying21
  a21 := Tryz.isAgg21
  z21 := Tryz.sizeOf21
  v21 := Tryz.zeroValue21
  t37 := Tryz.underlying52
  a37 := Tryz.isAgg52
  z37 := Tryz.sizeOf52
  v37 := Tryz.zeroValue52
  t46 := Tryz.underlying132
  a46 := Tryz.isAgg132
  z46 := Tryz.sizeOf132
  v46 := Tryz.zeroValue132
  t51 := Tryz.underlying130
  a51 := Tryz.isAgg130
  z51 := Tryz.sizeOf130
  v51 := Tryz.zeroValue130
  t53 := Tryz.underlying93
  a53 := Tryz.isAgg93
  z53 := Tryz.sizeOf93
  v53 := Tryz.zeroValue93
  t75 := Tryz.underlying57
  a75 := Tryz.isAgg57
  z75 := Tryz.sizeOf57
  v75 := Tryz.zeroValue57
  t85 := Tryz.underlying137
  a85 := Tryz.isAgg137
  z85 := Tryz.sizeOf137
  v85 := Tryz.zeroValue137
  t127 := Tryz.underlying82
  a127 := Tryz.isAgg82
  z127 := Tryz.sizeOf82
  v127 := Tryz.zeroValue82
  t143 := Tryz.underlying159
  a143 := Tryz.isAgg159
  z143 := Tryz.sizeOf159
  v143 := Tryz.zeroValue159
  t145 := Tryz.underlying161
  a145 := Tryz.isAgg161
  z145 := Tryz.sizeOf161
  v145 := Tryz.zeroValue161
  t167 := Tryz.underlying146
  a167 := Tryz.isAgg146
  z167 := Tryz.sizeOf146
  v167 := Tryz.zeroValue146
  t168 := Tryz.underlying147
  a168 := Tryz.isAgg147
  z168 := Tryz.sizeOf147
  v168 := Tryz.zeroValue147
  t171 := Tryz.underlying110
  a171 := Tryz.isAgg110
  z171 := Tryz.sizeOf110
  v171 := Tryz.zeroValue110
  t173 := Tryz.underlying113
  a173 := Tryz.isAgg113
  z173 := Tryz.sizeOf113
  v173 := Tryz.zeroValue113
  t175 := Tryz.underlying152
  a175 := Tryz.isAgg152
  z175 := Tryz.sizeOf152
  v175 := Tryz.zeroValue152
  t210 := Tryz.underlying156
  a210 := Tryz.isAgg156
  z210 := Tryz.sizeOf156
  v210 := Tryz.zeroValue156
  t212 := Tryz.underlying129
  a212 := Tryz.isAgg129
  z212 := Tryz.sizeOf129
  v212 := Tryz.zeroValue129
  t213 := Tryz.underlying131
  a213 := Tryz.isAgg131
  z213 := Tryz.sizeOf131
  t232 := Tryz.underlying150
  a232 := Tryz.isAgg150
  z232 := Tryz.sizeOf150
  v232 := Tryz.zeroValue150
  t233 := Tryz.underlying151
  a233 := Tryz.isAgg151
  z233 := Tryz.sizeOf151
  v233 := Tryz.zeroValue151
  g15 := by kernel_rfl
  g16 := by kernel_rfl
  g17 := by kernel_rfl
  g18 := by kernel_rfl
  g19 := by kernel_rfl
  t80 := Tryz.underlying45
  a80 := Tryz.isAgg45
  z80 := Tryz.sizeOf45
  v80 := Tryz.zeroValue45
  i0 := by kernel_rfl
  i2 := by kernel_rfl
  i3 := by kernel_rfl
  i4 := by kernel_rfl
  i5 := by kernel_rfl
  i9 := by kernel_rfl
  i20 := by kernel_rfl
  i21 := by kernel_rfl
  i37 := by kernel_rfl
  i46 := by kernel_rfl
  i51 := by kernel_rfl
  i53 := by kernel_rfl
  i75 := by kernel_rfl
  i80 := by kernel_rfl
  i85 := by kernel_rfl
  i127 := by kernel_rfl
  i143 := by kernel_rfl
  i145 := by kernel_rfl
  i167 := by kernel_rfl
  i168 := by kernel_rfl
  i171 := by kernel_rfl
  i173 := by kernel_rfl
  i175 := by kernel_rfl
  i210 := by kernel_rfl
  i212 := by kernel_rfl
  i232 := by kernel_rfl
  i233 := by kernel_rfl
  m15 := by kernel_rfl
  m16 := by kernel_rfl
  m17 := by kernel_rfl
  m18 := by kernel_rfl
  m19 := by kernel_rfl
  c0 := by kernel_rfl
  c2 := by kernel_rfl
  c3 := by kernel_rfl
  c4 := by kernel_rfl
  c5 := by kernel_rfl
  c9 := by kernel_rfl
  c20 := by kernel_rfl
  c21 := by kernel_rfl
  c37 := by kernel_rfl
  c46 := by kernel_rfl
  c51 := by kernel_rfl
  c53 := by kernel_rfl
  c75 := by kernel_rfl
  c80 := by kernel_rfl
  c85 := by kernel_rfl
  c127 := by kernel_rfl
  c143 := by kernel_rfl
  c145 := by kernel_rfl
  c167 := by kernel_rfl
  c168 := by kernel_rfl
  c171 := by kernel_rfl
  c173 := by kernel_rfl
  c175 := by kernel_rfl
  c210 := by kernel_rfl
  c212 := by kernel_rfl
  c213 := by kernel_rfl
  c232 := by kernel_rfl
  c233 := by kernel_rfl }
def Tryz.lsplit_ren : Go.Shelf.Ren := ⟨fun | 146 => 29 | 221 => 48 | 268 => 63 | 138 => 64 | 143 => 65 | 195 => 74 | 197 => 75 | 218 => 76 | 219 => 77 | 260 => 91 | 217 => 92 | 225 => 93 | 224 => 94 | 267 => 95 | 266 => 104 | 314 => 105 | n => n, fun | 9 => 9 | 31 => 55 | 3 => 3 | 4 => 4 | 0 => 0 | 105 => 116 | 21 => 21 | 5 => 5 | 46 => 132 | 119 => 140 | 139 => 143 | 138 => 142 | 146 => 144 | 51 => 130 | n => n, fun | 1 => 0 | 3 => 2 | 4 => 3 | n => n⟩
theorem Tryz.lsplit : Go.Proofs.LaysM.n146 Tryz.prog Tryz.lsplit_ren := {
  mixed := by kernel_rfl
  f138 := Tryz.func64.trans (congrArg some (by kernel_rfl))
  f143 := Tryz.func65.trans (congrArg some (by kernel_rfl))
  f146 := Tryz.func29.trans (congrArg some (by kernel_rfl))
  f195 := Tryz.func74.trans (congrArg some (by kernel_rfl))
  f197 := Tryz.func75.trans (congrArg some (by kernel_rfl))
  f217 := Tryz.func92.trans (congrArg some (by kernel_rfl))
  f218 := Tryz.func76.trans (congrArg some (by kernel_rfl))
  f219 := Tryz.func77.trans (congrArg some (by kernel_rfl))
  f221 := Tryz.func48.trans (congrArg some (by kernel_rfl))
  f224 := Tryz.func94.trans (congrArg some (by kernel_rfl))
  f225 := Tryz.func93.trans (congrArg some (by kernel_rfl))
  f260 := Tryz.func91.trans (congrArg some (by kernel_rfl))
  f266 := Tryz.func104.trans (congrArg some (by kernel_rfl))
  f267 := Tryz.func95.trans (congrArg some (by kernel_rfl))
  f268 := Tryz.func63.trans (congrArg some (by kernel_rfl))
  f314 := Tryz.func105.trans (congrArg some (by kernel_rfl))
  t0 := Tryz.underlying0
  a0 := Tryz.isAgg0
  z0 := Tryz.sizeOf0
  v0 := Tryz.zeroValue0
  t3 := Tryz.underlying3
  a3 := Tryz.isAgg3
  z3 := Tryz.sizeOf3
  v3 := Tryz.zeroValue3
  t4 := Tryz.underlying4
  a4 := Tryz.isAgg4
  z4 := Tryz.sizeOf4
  v4 := Tryz.zeroValue4
  t5 := Tryz.underlying5
  a5 := Tryz.isAgg5
  z5 := Tryz.sizeOf5
  v5 := Tryz.zeroValue5
  t9 := Tryz.underlying9
  a9 := Tryz.isAgg9
  z9 := Tryz.sizeOf9
  v9 := Tryz.zeroValue9
  t21 := Tryz.underlying21
  a21 := Tryz.isAgg21
  z21 := Tryz.sizeOf21
  v21 := Tryz.zeroValue21
  t31 := Tryz.underlying55
  a31 := Tryz.isAgg55
  z31 := Tryz.sizeOf55
  v31 := Tryz.zeroValue55
  t46 := Tryz.underlying132
  a46 := Tryz.isAgg132
  z46 := Tryz.sizeOf132
  v46 := Tryz.zeroValue132
  t51 := Tryz.underlying130
  a51 := Tryz.isAgg130
  z51 := Tryz.sizeOf130
  v51 := Tryz.zeroValue130
  t105 := Tryz.underlying116
  a105 := Tryz.isAgg116
  z105 := Tryz.sizeOf116
  v105 := Tryz.zeroValue116
  t119 := Tryz.underlying140
  a119 := Tryz.isAgg140
  z119 := Tryz.sizeOf140
  t138 := Tryz.underlying142
  a138 := Tryz.isAgg142
  z138 := Tryz.sizeOf142
  v138 := Tryz.zeroValue142
  t139 := Tryz.underlying143
  a139 := Tryz.isAgg143
  z139 := Tryz.sizeOf143
  v139 := Tryz.zeroValue143
  t146 := Tryz.underlying144
  a146 := Tryz.isAgg144
  z146 := Tryz.sizeOf144
  v146 := Tryz.zeroValue144
  g1 := by kernel_rfl
  g3 := by kernel_rfl
  g4 := by kernel_rfl
  i0 := by kernel_rfl
  i3 := by kernel_rfl
  i4 := by kernel_rfl
  i5 := by kernel_rfl
  i9 := by kernel_rfl
  i21 := by kernel_rfl
  i31 := by kernel_rfl
  i46 := by kernel_rfl
  i51 := by kernel_rfl
  i105 := by kernel_rfl
  i138 := by kernel_rfl
  i139 := by kernel_rfl
  i146 := by kernel_rfl
  m1 := by kernel_rfl
  s1_3 := fun w h => Go.Proofs.cell_of_shapedOpen_int (zero := #[.int .i64 0]) (t := 3) h (of_decide_eq_true (by kernel_rfl)) (by kernel_rfl) rfl (by kernel_rfl) (by kernel_rfl) Tryz.underlying3
  m3 := by kernel_rfl
  m4 := by kernel_rfl }
end Go.Proofs
namespace Go.Fw
open Go.RowKit
theorem splitB_words (c : UInt8) : ∀ (n : Nat) (s : ByteArray), s.size ≤ n → Lib.splitB ⟨#[c]⟩ 0 (Lib.countB s ⟨#[c]⟩) s = wordsB c s := by
  intro n
  have one : ∀ s : ByteArray, Lib.indexB s ⟨#[c]⟩ = Lib.indexByte s.data.toList c := fun s => by
    rw [Lib.one s ⟨#[c]⟩ rfl]
    congr 1
    exact Lib.byte_back c
  have sz : (⟨#[c]⟩ : ByteArray).size = 1 := rfl
  induction n with
  | zero =>
    intro s hs
    rcases indexByte_cases c s.data.toList with ⟨h, _⟩ | ⟨i, h, hlt, _⟩
    · rw [Lib.countB_miss _ _ ((one s).trans h), Lib.splitB_zero, wordsB_miss h]
    · have : s.data.toList.length = s.size := rfl
      omega
  | succ n ih =>
    intro s hs
    rcases indexByte_cases c s.data.toList with ⟨h, _⟩ | ⟨i, h, hlt, _⟩
    · rw [Lib.countB_miss _ _ ((one s).trans h), Lib.splitB_zero, wordsB_miss h]
    · have h2 := (one s).trans h
      rw [Lib.countB_hit _ _ i (by rw [sz]; decide) h2, Nat.add_comm 1, Lib.splitB_hit _ _ _ _ i h2, (wordsB_hit h).2, sz, Nat.add_zero]
      congr 1
      refine ih _ ?_
      rw [ByteArray.size_extract]
      have : s.data.toList.length = s.size := rfl
      omega
theorem countB_words (c : UInt8) (s : ByteArray) : Lib.countB s ⟨#[c]⟩ + 1 = (wordsB c s).length := by
  rw [← splitB_words c s.size s (Nat.le_refl _)]
  exact (Lib.splitB_all ⟨#[c]⟩ (Nat.le_refl 1) 0 _ s rfl).symm
end Go.Fw
namespace Go.Proofs.YteljecehppeamaaGreatDoor
open Go.RowKit Go.Shelf Go.Fw
set_option linter.unusedVariables false
/-- what lies in memory ahead of a call of strings.Split: a bound, some number -/
def HasMax (w : World) : Prop := ∃ m, w.cell? ⟨0, 0, none⟩ = some (.int .i64 m)
theorem hasMax_of {w : World} (h : w.ShapedOpen Tryz.prog) : HasMax w := Tryz.lsplit.s1_3 w h
theorem hasMax_up {w w' : World} (h : HasMax w) (hb : Below w.heap.size w w') : HasMax w' := by
  obtain ⟨m, hm⟩ := h
  exact ⟨m, (World.cell?_of_block (hb.block _ (World.block_lt_of_cell? w _ hm))).trans hm⟩
theorem split_any (c : UInt8) (s : ByteArray) (hs : s.size ≤ 100000) (w : World) (hM : HasMax w) :
    Calls Tryz.prog 29 #[.string s, .string ⟨#[c]⟩] w fun e w' => e = .returned (.slice (some ⟨w.heap.size, 0, none⟩) (wordsB c s).length (wordsB c s).length) ∧ w' = w.alloc (.cells ((wordsB c s).map Value.string).toArray 9) := by
  obtain ⟨m, hm⟩ := hM
  have h := Any.strings_Split { Tryz.lsplit with } Tryz.lsplit.i9 s ⟨#[c]⟩ m w (by omega) hm (Nat.le_refl 1)
  change Calls Tryz.prog 29 _ _ _ at h
  refine h.mono fun e w' ⟨h1, h2⟩ => ?_
  rw [countB_words] at h1
  rw [splitB_words c s.size s (Nat.le_refl _)] at h2
  exact ⟨h1, h2⟩
theorem pint_any (s : ByteArray) (hs : s.size ≤ 1000000) (w : World) (hT : Tabs Tryz.prog w) :
    Calls Tryz.prog 100 #[.string s, .int .i64 10, .int .i64 64] w fun e w' => ∃ n ok, (∃ ev, e = .returned (.tuple #[.int .i64 n, ev]) ∧ ((ok = true ∧ ev = .nilIface) ∨ (ok = false ∧ ∃ t p, ev = .iface t p))) ∧ readsAs s n ok ∧ Below w.heap.size w w' := by
  obtain ⟨_, ⟨t2, p2, h2⟩, ⟨t3, p3, h3⟩⟩ := hT
  have e64 := Lib.parseIntB_64 s.data.toList
  cases hk : Lib.parseIntB 64 s.data.toList
  · rename_i v
    have h := Any.strconv_ParseInt_10_at64_ok Tryz.lpint s (by omega) v hk w
    change Calls Tryz.prog 100 _ _ _ at h
    rw [e64] at hk
    exact h.mono fun e w' ⟨h1, h2⟩ => ⟨v, true, ⟨_, h1, .inl ⟨rfl, rfl⟩⟩, ⟨Lib.atoiAll_bounds hk, fun _ => hk, (fun h => by cases h)⟩, below_bytes h2⟩
  · have h := Any.strconv_ParseInt_10_at64_syntax_var Tryz.lpint s (by omega) hk t2 p2 w h2
    change Calls Tryz.prog 100 _ _ _ at h
    rw [e64] at hk
    exact h.mono fun e w' ⟨N, h1, _, _, h4⟩ => ⟨0, false, ⟨_, h1, .inr ⟨rfl, _, _, rfl⟩⟩, ⟨by unfold In64; omega, (fun h => by cases h), (fun _ v e => by rw [hk] at e; cases e)⟩, h4⟩
  · have h := Any.strconv_ParseInt_10_at64_range_var Tryz.lpint s (by omega) hk t3 p3 w h3
    change Calls Tryz.prog 100 _ _ _ at h
    rw [e64] at hk
    exact h.mono fun e w' ⟨N, h1, _, _, h4⟩ => ⟨_, false, ⟨_, h1, .inr ⟨rfl, _, _, rfl⟩⟩, ⟨by rw [Lib.intSat_64]; exact Lib.atoiSat_bounds _, (fun h => by cases h), (fun _ v e => by rw [hk] at e; cases e)⟩, h4⟩
/-- what lies in memory ahead of a call of Parse -/
structure Ready (w : World) : Prop where
  tabs : Tabs Tryz.prog w
  max : HasMax w
theorem Ready.up {w w' : World} (h : Ready w) (hb : Below w.heap.size w w') : Ready w' := ⟨h.tabs.up hb, hasMax_up h.max hb⟩
end Go.Proofs.YteljecehppeamaaGreatDoor
/-
  The reader of a line's words, walked (chapter 41). Conditions: strconv's table and errors lie in memory.
-/
namespace Go.Proofs.YteljecehppeamaaGreatDoor
open Go.RowKit Go.Fw Go.Shelf
set_option maxHeartbeats 2000000
set_option maxRecDepth 4000
set_option linter.unusedVariables false
set_option linter.unusedSimpArgs false
/-- a reader that stands ahead of word k of these words, which lie in block g -/
structure RdAt (w : World) (rb g : Nat) (all : List ByteArray) (k : Nat) (bad : Bool) : Prop where
  box : ∃ off : Nat, (k < all.length → off = k) ∧ Blk w rb 124 #[.slice (some ⟨g, off, none⟩) (all.length - k) (all.length - k), .bool bad]
  row : Blk w g 9 (strs all).toArray
  le : k ≤ all.length
theorem blk_ne {w : World} {g g' : Nat} {t t' : TypeId} {cs cs' : Array Value} (h : Blk w g t cs) (h' : Blk w g' t' cs') (hne : t ≠ t') : g ≠ g' := by
  rintro rfl
  unfold Blk at h h'
  rw [h] at h'
  injection h' with h'
  injection h' with _ ht
  exact hne ht
theorem RdAt.ne {w : World} {rb g : Nat} {all : List ByteArray} {k : Nat} {bad : Bool} (h : RdAt w rb g all k bad) : rb ≠ g := by
  obtain ⟨_, _, hb⟩ := h.box
  exact blk_ne hb h.row (by decide)
theorem RdAt.up {w w' : World} {rb g : Nat} {all : List ByteArray} {k : Nat} {bad : Bool} (h : RdAt w rb g all k bad) (hb : Below w.heap.size w w') : RdAt w' rb g all k bad := by
  obtain ⟨off, h1, h2⟩ := h.box
  exact ⟨⟨off, h1, h2.later hb⟩, h.row.later hb, h.le⟩
theorem RdAt.keep {w w' : World} {L : Nat → Prop} {rb g : Nat} {all : List ByteArray} {k : Nat} {bad : Bool} (h : RdAt w rb g all k bad) (hk : Keep L w w') (h1 : ¬ L rb) (h2 : ¬ L g) : RdAt w' rb g all k bad := by
  obtain ⟨off, h3, h4⟩ := h.box
  exact ⟨⟨off, h3, hk.blk h4 h1⟩, hk.blk h.row h2, h.le⟩
theorem RdAt.lt {w : World} {rb g : Nat} {all : List ByteArray} {k : Nat} {bad : Bool} (h : RdAt w rb g all k bad) : rb < w.heap.size := by
  obtain ⟨_, _, hb⟩ := h.box
  exact hb.lt
theorem word_none (w : World) (rb g : Nat) (all : List ByteArray) (bad : Bool) (h : RdAt w rb g all all.length bad) :
    Calls Tryz.prog 82 #[.pointer (some ⟨rb, 0, none⟩)] w fun x w' => x = .returned (.string ByteArray.empty) ∧ RdAt w' rb g all all.length true ∧ Keep (fun j => j = rb) w w' := by
  obtain ⟨off, h1, h2⟩ := h.box
  rw [Nat.sub_self] at h2
  have c0 := h2.cell 0
  have c1 := h2.cell 1
  have f0 := h2.frozen
  simp at c0 c1
  have HN : Hid (RdAt (w.setCell ⟨rb, 1, none⟩ (.bool true)) rb g all all.length true) := by
    refine ⟨⟨off, fun h => by omega, ?_⟩, h.row.far (p := ⟨rb, 1, none⟩) h.ne.symm _, Nat.le_refl _⟩
    have := h2.set_ 1 (.bool true)
    rw [Nat.sub_self]
    exact this
  have HK : Hid (Keep (fun j => j = rb) w (w.setCell ⟨rb, 1, none⟩ (.bool true))) := Lib.hid ((Keep.refl (fun j => j = rb) w).setCell (p := ⟨rb, 1, none⟩) (.inl rfl) _)
  clear h h1 h2
  generalize all.length = n at *
  go_enter Tryz.func82, Tryz.ntmps82
  go_wp2
  go_ret
  exact ⟨rfl, HN.out, HK.out⟩
theorem word_some (w : World) (rb g k : Nat) (all : List ByteArray) (bad : Bool) (hk : k < all.length) (hlen : all.length ≤ 1000000) (h : RdAt w rb g all k bad) :
    Calls Tryz.prog 82 #[.pointer (some ⟨rb, 0, none⟩)] w fun x w' => x = .returned (.string all[k]) ∧ RdAt w' rb g all (k + 1) bad ∧ Keep (fun j => j = rb) w w' := by
  obtain ⟨off, h1, h2⟩ := h.box
  obtain rfl := h1 hk
  obtain ⟨m, hm⟩ : ∃ m, all.length - off = m + 1 := ⟨all.length - off - 1, by omega⟩
  rw [hm] at h2
  have c0 := h2.cell 0
  have c1 := h2.cell 1
  have f0 := h2.frozen
  have r0 : w.cell? ⟨g, off, none⟩ = some (.string all[off]) := (h.row.cell off).trans (by simp [strs, hk])
  simp at c0 c1
  have HN : Hid (∀ off', (off + 1 < all.length → off' = off + 1) → RdAt (w.setCell ⟨rb, 0, none⟩ (.slice (some ⟨g, off', none⟩) m m)) rb g all (off + 1) bad) := by
    intro off' hoff
    refine ⟨⟨off', hoff, ?_⟩, h.row.far (p := ⟨rb, 0, none⟩) h.ne.symm _, by omega⟩
    have := h2.set_ 0 (.slice (some ⟨g, off', none⟩) m m)
    rw [show all.length - (off + 1) = m by omega]
    exact this
  have HK : Hid (∀ v, Keep (fun j => j = rb) w (w.setCell ⟨rb, 0, none⟩ v)) := Lib.hid fun v => (Keep.refl (fun j => j = rb) w).setCell (p := ⟨rb, 0, none⟩) (.inl rfl) _
  have HM : Hid (m + 1 + off = all.length) := by show _ = _; omega
  have hm2 : m ≤ 1000000 := by omega
  clear h h1 h2 hm hlen
  generalize all[off] = x0 at *
  clear hk
  generalize all.length = n at *
  by_cases hm0 : m = 0
  · subst hm0
    go_enter Tryz.func82, Tryz.ntmps82
    go_wp2
    go_ret
    exact ⟨rfl, HN.out _ (fun h => by have := HM.out; omega), HK.out _⟩
  · go_enter Tryz.func82, Tryz.ntmps82
    go_wp2
    go_ret
    exact ⟨rfl, HN.out _ (fun h => rfl), HK.out _⟩
/-- a word of a list, or none -/
def wdAt (all : List ByteArray) (k : Nat) : ByteArray := all.getD k ByteArray.empty
/-- the word that a reader takes, and whether there was none -/
theorem word_any (w : World) (rb g k : Nat) (all : List ByteArray) (bad : Bool) (hlen : all.length ≤ 1000000) (h : RdAt w rb g all (min k all.length) bad) :
    Calls Tryz.prog 82 #[.pointer (some ⟨rb, 0, none⟩)] w fun x w' => x = .returned (.string (wdAt all k)) ∧ RdAt w' rb g all (min (k + 1) all.length) (bad || decide (all.length ≤ k)) ∧ Keep (fun j => j = rb) w w' := by
  by_cases hk : k < all.length
  · have e1 : wdAt all k = all[k] := by simp [wdAt, List.getD_eq_getElem?_getD, hk]
    have e2 : min (k + 1) all.length = k + 1 := by omega
    have e3 : (bad || decide (all.length ≤ k)) = bad := by simp; omega
    rw [show min k all.length = k by omega] at h
    rw [e1, e2, e3]
    exact word_some w rb g k all bad hk hlen h
  · have e1 : wdAt all k = ByteArray.empty := by simp [wdAt, List.getD_eq_getElem?_getD, show all.length ≤ k by omega]
    have e2 : min (k + 1) all.length = all.length := by omega
    have e3 : (bad || decide (all.length ≤ k)) = true := by simp; omega
    rw [show min k all.length = all.length by omega] at h
    rw [e1, e2, e3]
    exact word_none w rb g all bad h
def numAt (all : List ByteArray) (k : Nat) : Option Int := readW (wdAt all k)
theorem numAt_out {all : List ByteArray} {k : Nat} (h : all.length ≤ k) : numAt all k = none := by
  have e : wdAt all k = ByteArray.empty := by unfold wdAt; simp [List.getD_eq_getElem?_getD, h]
  unfold numAt
  rw [e]
  refine readW_bad fun v hv => ?_
  simp [Lib.atoiAll] at hv
theorem str_ne {a b : ByteArray} (h : a ≠ b) : (a.toList != b.toList) = true := by
  simp only [bne_iff_ne, ne_eq]
  intro e
  rw [ByteArray.toList_eq, ByteArray.toList_eq] at e
  exact h (bytes_ext e)
theorem str_same (a : ByteArray) : (a.toList != a.toList) = false := by simp
theorem num_any (w0 w : World) (rb g k : Nat) (all : List ByteArray) (bad : Bool) (hlen : all.length ≤ 1000000) (hsz : ∀ x ∈ all, x.size ≤ 1000000) (hR : Ready w0) (hb0 : Below w0.heap.size w0 w) (hrb : w0.heap.size ≤ rb) (h : RdAt w rb g all (min k all.length) bad) :
    Calls Tryz.prog 83 #[.pointer (some ⟨rb, 0, none⟩)] w fun x w' => ∃ n, x = .returned (.int .i64 n) ∧ In64 n ∧ (∀ v, numAt all k = some v → n = v) ∧ RdAt w' rb g all (min (k + 1) all.length) (bad || !(numAt all k).isSome) ∧ Keep (fun j => j = rb) w w' := by
  have HW := Lib.hid (word_any w rb g k all bad hlen h)
  have hx : (wdAt all k).size ≤ 1000000 := by
    by_cases hk : k < all.length
    · have e1 : wdAt all k = all[k] := by simp [wdAt, List.getD_eq_getElem?_getD, hk]
      rw [e1]
      exact hsz _ (List.getElem_mem hk)
    · have e1 : wdAt all k = ByteArray.empty := by simp [wdAt, List.getD_eq_getElem?_getD, show all.length ≤ k by omega]
      rw [e1]
      decide
  have HX := Lib.hid hx
  have HNA : Hid (numAt all k = readW (wdAt all k)) := Lib.hid rfl
  have HBD : Hid ((bad || decide (all.length ≤ k)) = true → (numAt all k).isSome = true → bad = true) := Lib.hid fun h1 h2 => by
    by_cases hk : all.length ≤ k
    · rw [numAt_out hk] at h2
      cases h2
    · simpa [hk] using h1
  have HBE : Hid (bad = true → (bad || decide (all.length ≤ k)) = true) := Lib.hid fun h => by rw [h]; rfl
  have HR := Lib.hid hR
  have HB0 := Lib.hid hb0
  have hlt := h.lt
  have HL := Lib.hid hlt
  clear hx hR hb0 hsz h hlt
  generalize wdAt all k = x0 at *
  generalize (bad || decide (all.length ≤ k)) = bd at *
  go_enter Tryz.func83, Tryz.ntmps83
  go_wp2_with fail
  refine HW.out.mono ?_
  rintro y w1 ⟨rfl, hr1, hk1⟩
  have HR1 := Lib.hid hr1
  have HK1 := Lib.hid hk1
  have hbb : Below w0.heap.size w0 w1 := HB0.out.trans (hk1.below HB0.out.size (fun j e => by rw [e]; exact hrb))
  have HBB := Lib.hid hbb
  clear hr1 hk1 hbb
  go_wp2_with fail
  refine (pint_any x0 HX.out _ (HR.out.up HBB.out).tabs).mono ?_
  rintro y w2 ⟨n, ok, ⟨ev, rfl, hev⟩, hra, hb2⟩
  have HRA := Lib.hid hra
  have HB2 := Lib.hid hb2
  have hr2 := HR1.out.up hb2
  have hk2 := HK1.out.trans (Keep.of_below (L := fun j => j = rb) hb2)
  have HR2 := Lib.hid hr2
  have HK2 := Lib.hid hk2
  have hbb2 := sub_trans HBB.out hb2
  have HBB2 := Lib.hid hbb2
  clear hra hb2 hr2 hk2 hbb2
  obtain ⟨off, _, hbx⟩ := HR2.out.box
  have hbx2 := hbx.set_ 1 (.bool true)
  have c1 := hbx.cell 1
  have f1 := hbx.frozen 1
  simp at c1
  have HN2 : Hid (RdAt (w2.setCell ⟨rb, 1, none⟩ (.bool true)) rb g all (min (k + 1) all.length) true) :=
    ⟨⟨off, by obtain ⟨off2, h3, h4⟩ := HR2.out.box; intro h5; have := h3 h5; unfold Blk at hbx h4; rw [hbx] at h4; simp at h4; omega, by simpa using hbx2⟩, HR2.out.row.far (p := ⟨rb, 1, none⟩) HR2.out.ne.symm _, HR2.out.le⟩
  have HKS : Hid (Keep (fun j => j = rb) w (w2.setCell ⟨rb, 1, none⟩ (.bool true))) := Lib.hid (HK2.out.setCell (p := ⟨rb, 1, none⟩) (.inl rfl) _)
  clear hbx hbx2
  have hfin : ∀ w', readW x0 = none → RdAt w' rb g all (min (k + 1) all.length) true → Keep (fun j => j = rb) w w' → ∃ n_1, Ending.returned (.int .i64 n) = .returned (.int .i64 n_1) ∧ In64 n_1 ∧ (∀ v, numAt all k = some v → n_1 = v) ∧ RdAt w' rb g all (min (k + 1) all.length) (bad || !(numAt all k).isSome) ∧ Keep (fun j => j = rb) w w' := fun w' hn hr hk => by
    refine ⟨n, rfl, HRA.out.1, fun v hv => ?_, ?_, hk⟩
    · rw [HNA.out, hn] at hv
      cases hv
    · rw [HNA.out, hn]
      simpa using hr
  have HFIN := Lib.hid hfin
  clear hfin
  rcases hev with ⟨rfl, rfl⟩ | ⟨rfl, t9, p9, rfl⟩
  · have HNB := Lib.hid (number_any n HRA.out.1 w2 (HR.out.up HBB2.out).tabs.pow)
    by_cases he : decB n = x0
    · have HRW : Hid (readW x0 = some n) := Lib.hid (readW_ok (HRA.out.2.1 rfl) he)
      have hss := str_same x0
      rw [he] at HNB
      have hfin : ∀ w', Below w2.heap.size w2 w' → ∃ n_1, Ending.returned (.int .i64 n) = .returned (.int .i64 n_1) ∧ In64 n_1 ∧ (∀ v, numAt all k = some v → n_1 = v) ∧ RdAt w' rb g all (min (k + 1) all.length) (bad || !(numAt all k).isSome) ∧ Keep (fun j => j = rb) w w' := fun w' hb => by
        refine ⟨n, rfl, HRA.out.1, fun v hv => ?_, ?_, HK2.out.trans (Keep.of_below hb)⟩
        · rw [HNA.out, HRW.out] at hv
          injection hv
        · have e : (bad || !(numAt all k).isSome) = bd := by
            have hs : (numAt all k).isSome = true := by rw [HNA.out, HRW.out]; rfl
            have q1 := fun h => HBD.out h hs
            have q2 := HBE.out
            rw [hs]
            cases hq : bd <;> cases hq2 : bad <;> simp_all
          rw [e]
          exact HR2.out.up hb
      have HF2 := Lib.hid hfin
      clear hfin he c1 f1
      go_wp2_with fail
      refine HNB.out.mono ?_
      rintro y w3 ⟨rfl, hb3⟩
      go_wp2
      go_ret
      exact HF2.out _ hb3
    · have HRW : Hid (readW x0 = none) := Lib.hid (readW_other (HRA.out.2.1 rfl) he)
      have hss := str_ne he
      have hss2 : ((decB n).toList == x0.toList) = false := by simpa using hss
      clear he c1 f1 HN2 HKS
      generalize decB n = y0 at *
      go_wp2_with fail
      refine HNB.out.mono ?_
      rintro y w3 ⟨rfl, hb3⟩
      have hr3 := HR2.out.up hb3
      obtain ⟨off, hoff, hbx⟩ := hr3.box
      have hbx2 := hbx.set_ 1 (.bool true)
      have c1 := hbx.cell 1
      have f1 := hbx.frozen 1
      simp at c1
      have HN3 : Hid (RdAt (w3.setCell ⟨rb, 1, none⟩ (.bool true)) rb g all (min (k + 1) all.length) true) :=
        ⟨⟨off, hoff, by simpa using hbx2⟩, hr3.row.far (p := ⟨rb, 1, none⟩) hr3.ne.symm _, hr3.le⟩
      have HK3 : Hid (Keep (fun j => j = rb) w (w3.setCell ⟨rb, 1, none⟩ (.bool true))) := Lib.hid ((HK2.out.trans (Keep.of_below hb3)).setCell (p := ⟨rb, 1, none⟩) (.inl rfl) _)
      clear hbx hbx2 hr3 hb3 hoff
      go_wp2
      go_ret
      exact HFIN.out _ HRW.out HN3.out HK3.out
  · have HRW : Hid (readW x0 = none) := Lib.hid (readW_bad (HRA.out.2.2 rfl))
    go_wp2
    go_ret
    exact HFIN.out _ HRW.out HN2.out HKS.out
theorem kind_any (x : ByteArray) (w : World) : Calls Tryz.prog 81 #[.string x] w fun y w' => y = .returned (.int .i64 (kindW x : Int)) ∧ Below w.heap.size w w' := by
  go_enter Tryz.func81, Tryz.ntmps81
  go_wp2
  go_loopw [3] (fun i wr => ∃ k : Nat, 1 ≤ k ∧ k ≤ 9 ∧ i = .int .i64 k ∧ Below w.heap.size w wr ∧ Hid (∀ j, 1 ≤ j → j < k → vbB j ≠ x)) (fun i _ => 9 - (intOf i).toNat)
  case atStart => exact ⟨1, by omega, by omega, rfl, Below.refl _ _, Lib.hid (fun j h1 h2 => by omega)⟩
  case round =>
    obtain ⟨k, h1, h9, rfl, hb, HK⟩ := hrel
    by_cases hlt : k ≤ 8
    · have HV := Lib.hid (verb_any (k : Int) wr)
      have HVE : Hid (vbB (k : Int).toNat = vbB k) := Lib.hid (by rw [Int.toNat_natCast])
      rw [HVE.out] at HV
      by_cases he : vbB k = x
      · have HF : Hid ((kindW x : Int) = k) := Lib.hid (by rw [← he, kindW_vb k h1 hlt])
        have hss : (x.toList == x.toList) = true := by simp
        rw [he] at HV
        clear he
        go_wp2_with fail
        refine HV.out.mono ?_
        rintro y w1 ⟨rfl, hb1⟩
        have hb2 := sub_trans hb hb1
        go_wp2
        go_ret
        exact ⟨ret_i HF.out.symm, hb2⟩
      · have hss : ((vbB k).toList == x.toList) = false := by
          have := str_ne he
          simpa using this
        have HE := Lib.hid he
        clear he
        generalize hvb : vbB k = V at *
        have HVB := Lib.hid hvb
        clear hvb
        go_wp2_with fail
        refine HV.out.mono ?_
        rintro y w1 ⟨rfl, hb1⟩
        have hb2 := sub_trans hb hb1
        go_wp2
        go_roundw
        case rel =>
          refine ⟨k + 1, by omega, by omega, by go_num, hb2, Lib.hid fun j hj1 hj2 => ?_⟩
          by_cases hjk : j = k
          · subst hjk
            rw [HVB.out]
            exact HE.out
          · exact HK.out j hj1 (by omega)
        case measure => simp [intOf]; omega
    · have HF : Hid ((kindW x : Int) = 0) := Lib.hid (by rw [kindW_none fun j h1 h2 => HK.out j h1 (by omega)]; rfl)
      go_wp2
      go_ret
      exact ⟨ret_i HF.out.symm, hb⟩
end Go.Proofs.YteljecehppeamaaGreatDoor
/-
  The reader of a policy's numbers, walked (chapter 41). Conditions: strconv's table and errors lie in memory.
-/
namespace Go.Proofs.YteljecehppeamaaGreatDoor
open Go.RowKit Go.Fw Go.Shelf
set_option maxHeartbeats 2000000
set_option maxRecDepth 4000
set_option linter.unusedVariables false
set_option linter.unusedSimpArgs false
/-- whether the first i numbers behind names are numbers -/
def okUp (all : List ByteArray) (k : Nat) : Nat → Bool
  | 0 => true
  | i + 1 => okUp all k i && (numAt all (k + 2 * i + 1)).isSome
theorem okUp_at {all : List ByteArray} {k : Nat} : ∀ {i : Nat}, okUp all k i = true → ∀ j, j < i → (numAt all (k + 2 * j + 1)).isSome = true
  | 0, _, j, hj => by omega
  | i + 1, h, j, hj => by
    simp only [okUp, Bool.and_eq_true] at h
    by_cases e : j = i
    · subst e
      exact h.2
    · exact okUp_at h.1 j (by omega)
theorem policy_any (w0 w : World) (rb g k : Nat) (all : List ByteArray) (bad : Bool) (hlen : all.length ≤ 1000000) (hsz : ∀ x ∈ all, x.size ≤ 1000000) (hR : Ready w0) (hb0 : Below w0.heap.size w0 w) (hrb : w0.heap.size ≤ rb) (h : RdAt w rb g all (min k all.length) bad) :
    Calls Tryz.prog 84 #[.pointer (some ⟨rb, 0, none⟩)] w fun x w' => ∃ a b c d e f, x = .returned (.agg #[.int .i64 a, .int .i64 b, .int .i64 c, .int .i64 d, .int .i64 e, .int .i64 f]) ∧ In6 a b c d e f ∧
      (∀ j v, j < 6 → numAt all (k + 2 * j + 1) = some v → [a, b, c, d, e, f].getD j 0 = v) ∧ RdAt w' rb g all (min (k + 12) all.length) (bad || !(okUp all k 6)) ∧ Keep (fun j => j = rb) w w' := by
  have HW := Lib.hid (fun W k bd hr => word_any W rb g k all bd hlen hr)
  have HNM := Lib.hid (fun W k bd hb hr => num_any w0 W rb g k all bd hlen hsz hR hb hrb hr)
  have HB0 := Lib.hid hb0
  have HLT := Lib.hid h.lt
  have HA := Lib.hid h
  clear hR hb0 h hsz
  go_enter Tryz.func84, Tryz.ntmps84
  go_wp2
  obtain ⟨WA, hWA⟩ : ∃ WA, (w.alloc (.cells #[.int .i64 0, .int .i64 0, .int .i64 0, .int .i64 0, .int .i64 0, .int .i64 0] 48)).alloc (.cells #[.int .i64 0, .int .i64 0, .int .i64 0, .int .i64 0, .int .i64 0, .int .i64 0] 96) = WA := ⟨_, rfl⟩
  have hbA : Below w.heap.size w WA := by rw [← hWA]; exact sub_alloc (sub_alloc (Below.refl _ w) _) _
  have g2 : Blk WA w.heap.size 48 #[.int .i64 0, .int .i64 0, .int .i64 0, .int .i64 0, .int .i64 0, .int .i64 0] := by rw [← hWA]; exact (Blk.new_at _ _ _ rfl).alloc _
  have g3 : Blk WA (w.heap.size + 1) 96 (iarr [0, 0, 0, 0, 0, 0]) := by rw [← hWA]; exact Blk.new_at _ _ _ (by simp)
  rw [hWA]
  clear hWA
  have HG := Lib.hid (And.intro hbA (And.intro g2 g3))
  clear hbA g2 g3
  go_loopw [5] (fun i wr => ∃ (j : Nat) (vs : List Int), j ≤ 6 ∧ i = .int .i64 j ∧ vs.length = 6 ∧ Hid ((∀ x ∈ vs, In64 x) ∧ (∀ q v, q < j → numAt all (k + 2 * q + 1) = some v → vs.getD q 0 = v)) ∧ RdAt wr rb g all (min (k + 2 * j) all.length) (bad || !(okUp all k j)) ∧ Blk wr w.heap.size 48 #[.int .i64 0, .int .i64 0, .int .i64 0, .int .i64 0, .int .i64 0, .int .i64 0] ∧ Blk wr (w.heap.size + 1) 96 (iarr vs) ∧ Keep (fun j => j = rb) w wr)
    (fun i _ => 6 - (intOf i).toNat)
  case atStart => exact ⟨0, [0, 0, 0, 0, 0, 0], by omega, rfl, rfl, Lib.hid ⟨fun x hx => by simp at hx; subst hx; exact zero_in, fun q v hq => by omega⟩, by simpa [okUp] using HA.out.up HG.out.1, HG.out.2.1, HG.out.2.2, Keep.of_below HG.out.1⟩
  case round =>
    obtain ⟨j, vs, hj, rfl, hvl, HV, hr, q2, q3, hK0⟩ := hrel
    have HQ := Lib.hid (And.intro hr (And.intro q2 (And.intro q3 hK0)))
    have HVL := Lib.hid hvl
    clear hr q2 q3 hK0 hvl
    by_cases hlt : j < 6
    · have hjI : (j : Int) < 6 := by omega
      have HW1 := Lib.hid (HW.out wr _ _ HQ.out.1)
      go_wp2_with fail
      refine HW1.out.mono ?_
      rintro y w1 ⟨rfl, hr1, hk1⟩
      have hK1 := HQ.out.2.2.2.trans hk1
      have hb1 : Below w0.heap.size w0 w1 := HB0.out.trans (hK1.below HB0.out.size (fun j e => by rw [e]; exact hrb))
      have HR1 := Lib.hid (And.intro hr1 (And.intro hk1 (And.intro hb1 hK1)))
      clear hr1 hk1 hb1 hK1
      have HW2 := Lib.hid (HNM.out w1 (k + 2 * j + 1) _ HR1.out.2.2.1 HR1.out.1)
      go_wp2_with fail
      refine HW2.out.mono ?_
      rintro y w2 ⟨n, rfl, hn, hnv, hr2, hk2⟩
      have hne1 : ¬ w.heap.size = rb := by have := HLT.out; omega
      have hne2 : ¬ w.heap.size + 1 = rb := by have := HLT.out; omega
      have hgl : g < w.heap.size := HA.out.row.lt
      have p2 := hk2.blk (HR1.out.2.1.blk HQ.out.2.1 hne1) hne1
      have p3 := hk2.blk (HR1.out.2.1.blk HQ.out.2.2.1 hne2) hne2
      have hjl : j < vs.length := by have := HVL.out; omega
      have hc := (p3.cell j).trans (iarr_get hjl)
      have hf := p3.frozen j
      have p3' := p3.set_ j (.int .i64 n)
      rw [iarr_set] at p3'
      have hks : Keep (fun b => b = w.heap.size + 1) w2 (w2.setCell ⟨w.heap.size + 1, j, none⟩ (.int .i64 n)) := (Keep.refl (fun b => b = w.heap.size + 1) w2).setCell (p := ⟨w.heap.size + 1, j, none⟩) (.inl rfl) _
      have hbad : ((bad || !okUp all k j) || decide (all.length ≤ k + 2 * j) || !(numAt all (k + 2 * j + 1)).isSome) = (bad || !okUp all k (j + 1)) := by
        simp only [okUp]
        by_cases hle : all.length ≤ k + 2 * j
        · rw [numAt_out (show all.length ≤ k + 2 * j + 1 by omega)]
          simp
        · rw [show decide (all.length ≤ k + 2 * j) = false by simpa using hle]
          cases bad <;> cases okUp all k j <;> simp
      rw [hbad] at hr2
      have hr3 : RdAt (w2.setCell ⟨w.heap.size + 1, j, none⟩ (.int .i64 n)) rb g all (min (k + 2 * (j + 1)) all.length) (bad || !okUp all k (j + 1)) := by
        have := hr2.keep hks (fun e => hne2 e.symm) (by omega)
        rw [show k + 2 * (j + 1) = k + 2 * j + 1 + 1 by omega]
        exact this
      have HF := Lib.hid (And.intro hr3 (And.intro (p2.far (p := ⟨w.heap.size + 1, j, none⟩) (by simp) (.int .i64 n)) (And.intro p3' ((HR1.out.2.2.2.trans hk2).setCell (p := ⟨w.heap.size + 1, j, none⟩) (.inr (by simp)) (.int .i64 n)))))
      have HNV := Lib.hid (And.intro hn hnv)
      clear hr2 hk2 p2 p3 p3' hks hbad hr3 hn hnv hne1 hne2 hgl
      generalize vs[j] = vj at *
      go_wp2
      go_roundw
      case rel =>
        refine ⟨j + 1, vs.set j n, by omega, by go_num, by rw [List.length_set]; exact HVL.out, Lib.hid ⟨fun x hx => ?_, fun q v hq hv => ?_⟩, HF.out.1, HF.out.2.1, HF.out.2.2.1, HF.out.2.2.2⟩
        · rcases List.mem_or_eq_of_mem_set hx with h | h
          · exact HV.out.1 x h
          · rw [h]
            exact HNV.out.1
        · by_cases hqj : q = j
          · subst hqj
            have := HNV.out.2 v hv
            simp [List.getD_eq_getElem?_getD, hjl, this]
          · have h2 := HV.out.2 q v (by omega) hv
            simp only [List.getD_eq_getElem?_getD] at h2 ⊢
            rw [List.getElem?_set_ne (by omega)]
            exact h2
      case measure => simp [intOf]; omega
    · obtain rfl : j = 6 := by omega
      obtain ⟨a, b, c, d, e, f, rfl⟩ : ∃ a b c d e f, vs = [a, b, c, d, e, f] := by
        have := HVL.out
        match vs, this with
        | [a, b, c, d, e, f], _ => exact ⟨a, b, c, d, e, f, rfl⟩
      have hI : In6 a b c d e f := ⟨HV.out.1 a (by simp), HV.out.1 b (by simp), HV.out.1 c (by simp), HV.out.1 d (by simp), HV.out.1 e (by simp), HV.out.1 f (by simp)⟩
      have HI := Lib.hid hI
      have p3 := HQ.out.2.2.1
      have c0 := p3.cell 0
      have c1 := p3.cell 1
      have c2 := p3.cell 2
      have c3 := p3.cell 3
      have c4 := p3.cell 4
      have c5 := p3.cell 5
      simp [iarr, i64s] at c0 c1 c2 c3 c4 c5
      have f2 := HQ.out.2.1.frozen
      have q0 := HQ.out.2.1.cell 0
      have q1 := HQ.out.2.1.cell 1
      have q2 := HQ.out.2.1.cell 2
      have q3 := HQ.out.2.1.cell 3
      have q4 := HQ.out.2.1.cell 4
      have q5 := HQ.out.2.1.cell 5
      simp at q0 q1 q2 q3 q4 q5
      have hb := (((((HQ.out.2.1.set_ 0 (.int .i64 a)).set_ 1 (.int .i64 b)).set_ 2 (.int .i64 c)).set_ 3 (.int .i64 d)).set_ 4 (.int .i64 e)).set_ 5 (.int .i64 f)
      simp at hb
      have hkk : Keep (fun j => j = rb) w ((((((wr.setCell ⟨w.heap.size, 0, none⟩ (.int .i64 a)).setCell ⟨w.heap.size, 1, none⟩ (.int .i64 b)).setCell ⟨w.heap.size, 2, none⟩ (.int .i64 c)).setCell ⟨w.heap.size, 3, none⟩ (.int .i64 d)).setCell ⟨w.heap.size, 4, none⟩ (.int .i64 e)).setCell ⟨w.heap.size, 5, none⟩ (.int .i64 f)) :=
        (((((HQ.out.2.2.2.setCell (p := ⟨w.heap.size, 0, none⟩) (.inr (Nat.le_refl _)) _).setCell (p := ⟨w.heap.size, 1, none⟩) (.inr (Nat.le_refl _)) _).setCell (p := ⟨w.heap.size, 2, none⟩) (.inr (Nat.le_refl _)) _).setCell (p := ⟨w.heap.size, 3, none⟩) (.inr (Nat.le_refl _)) _).setCell (p := ⟨w.heap.size, 4, none⟩) (.inr (Nat.le_refl _)) _).setCell (p := ⟨w.heap.size, 5, none⟩) (.inr (Nat.le_refl _)) _
      have hks : Keep (fun b => b = w.heap.size) wr ((((((wr.setCell ⟨w.heap.size, 0, none⟩ (.int .i64 a)).setCell ⟨w.heap.size, 1, none⟩ (.int .i64 b)).setCell ⟨w.heap.size, 2, none⟩ (.int .i64 c)).setCell ⟨w.heap.size, 3, none⟩ (.int .i64 d)).setCell ⟨w.heap.size, 4, none⟩ (.int .i64 e)).setCell ⟨w.heap.size, 5, none⟩ (.int .i64 f)) :=
        ((((((Keep.refl (fun b => b = w.heap.size) wr).setCell (p := ⟨w.heap.size, 0, none⟩) (.inl rfl) _).setCell (p := ⟨w.heap.size, 1, none⟩) (.inl rfl) _).setCell (p := ⟨w.heap.size, 2, none⟩) (.inl rfl) _).setCell (p := ⟨w.heap.size, 3, none⟩) (.inl rfl) _).setCell (p := ⟨w.heap.size, 4, none⟩) (.inl rfl) _).setCell (p := ⟨w.heap.size, 5, none⟩) (.inl rfl) _
      have hrr := HQ.out.1.keep hks (by have := HLT.out; omega) (by have : g < w.heap.size := HA.out.row.lt; omega)
      have HZ := Lib.hid (And.intro hb (And.intro hkk hrr))
      clear hb hkk hks hrr hI p3
      go_wp2
      have z0 := HZ.out.1.cell 0
      have z1 := HZ.out.1.cell 1
      have z2 := HZ.out.1.cell 2
      have z3 := HZ.out.1.cell 3
      have z4 := HZ.out.1.cell 4
      have z5 := HZ.out.1.cell 5
      simp at z0 z1 z2 z3 z4 z5
      exact bodyPost_ret (v := .agg #[.int .i64 a, .int .i64 b, .int .i64 c, .int .i64 d, .int .i64 e, .int .i64 f]) (by simp [results, Tryz.results84, go_sem, z0, z1, z2, z3, z4, z5]) rfl ⟨a, b, c, d, e, f, rfl, HI.out, fun j v hj hv => HV.out.2 j v hj hv, HZ.out.2.2, HZ.out.2.1⟩
end Go.Proofs.YteljecehppeamaaGreatDoor
/-
  Regions whose order is open: where two operations may come next. Condition: none.
-/
namespace Go.Fw
set_option linter.unusedVariables false
open Go.RowKit
section
variable {P : Program} {ops : Array Oper} {l : List Oper} {Q : Exit → Act → World → Prop} {S S' : World → Prop}
/-- number i or number j comes next -/
theorem any_two (i j : Nat) {o o' : Oper} {fuel : Nat} {listed : Array Bool} {a : Act} {w : World} (hr : Region.ready .any l.toArray listed = [i, j]) (ho : l[i]? = some o) (ho' : l[j]? = some o')
    (hg : Region.wanted o (yielded l.toArray a.tmps) = true) (hg' : Region.wanted o' (yielded l.toArray a.tmps) = true)
    (hc : ∀ K : Act → World → Prop, (∀ a' w', S w' → wpAnyH P .any l.toArray Q S fuel (listed.setIfInBounds i true) a' w' → K a' w') → Oper.wp P o a w K Q)
    (hc' : ∀ K : Act → World → Prop, (∀ a' w', S w' → wpAnyH P .any l.toArray Q S fuel (listed.setIfInBounds j true) a' w' → K a' w') → Oper.wp P o' a w K Q) : wpAnyH P .any l.toArray Q S (fuel + 1) listed a w := by
  refine wpAnyH_all hr (by simp) fun k hk => ?_
  have hor : k = i ∨ k = j := by simpa using hk
  unfold wpOp
  rcases hor with rfl | rfl
  · have h1 : l.toArray[k]? = some o := by simpa using ho
    simp only [h1]
    rw [if_pos hg]
    exact .inl (hc _ fun a' w' h1 h2 => ⟨h1, h2⟩)
  · have h1 : l.toArray[k]? = some o' := by simpa using ho'
    simp only [h1]
    rw [if_pos hg']
    exact .inl (hc' _ fun a' w' h1 h2 => ⟨h1, h2⟩)
end
/-- a new block behind all that came so far -/
theorem new_of {B : Nat} {w W : World} (h : Below B w W) (t : TypeId) (cs : Array Value) : Blk (W.alloc (.cells cs t)) W.heap.size t cs := Blk.new_at W t cs rfl
theorem new_then {B : Nat} {w W : World} {t : TypeId} {cs : Array Value} {R : World → Prop} (hS : Below B w W) (hB : B = w.heap.size) (h : ∀ WT, Below B w WT → Blk WT W.heap.size t cs → B ≤ W.heap.size → R WT) : R (W.alloc (.cells cs t)) := by
  subst hB
  exact h _ (sub_alloc hS _) (Blk.new_at W t cs rfl) hS.size
end Go.Fw
