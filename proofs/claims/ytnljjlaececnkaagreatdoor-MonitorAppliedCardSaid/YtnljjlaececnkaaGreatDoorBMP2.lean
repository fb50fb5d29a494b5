/-
  Merged texts (Shelf, S, H, I, J, K), part 2 of 12. Conditions: each part's own, told at its head.
-/
import Derived.Test.YtnljjlaececnkaaGreatDoorBMP1
import Derived.Shelf.Strings.Builder1
import Derived.Shelf.Strings.Builder2
import Derived.Shelf.Strings.OnBuilder
import Derived.Shelf.Strings.Trim
import Derived.Shelf.Small.Utf8
import Derived.Shelf.Small.Strs
import Derived.Shelf.Small.Wraps
import Derived.Shelf.Strings.BuilderF
import Derived.Shelf.Strings.BuilderK
import Derived.Shelf.Utf8.RuneCount
import Derived.Shelf.Strings.Builder2Cap
import Derived.Shelf.Strconv.Atoi
import Derived.Shelf.Strconv.Itoa0
import Derived.Shelf.Strconv.Itoa1
import Derived.Shelf.LaysM
import Derived.Shelf.Strconv.Itoa2
import Derived.Shelf.Strconv.Itoa3
import Derived.Shelf.Strconv.AtoiErrFast
import Derived.Shelf.Strconv.ParseIntEmpty
import Derived.Shelf.Strconv.AtoiFail
import Derived.Shelf.Strconv.Clone
import Derived.Shelf.Strconv.SyntaxError
import Derived.Shelf.LaysC
import Derived.Shelf.Strconv.ToError
import Derived.Shelf.Strconv.Lower
import Derived.Shelf.Strconv.ParseUint10
import Derived.Shelf.Strconv.ParseUint10Empty
import Derived.Shelf.Strconv.ParseUint10Any
import Derived.Shelf.Strconv.ParseInt10
import Derived.Shelf.Strconv.AtoiLong
import Derived.Shelf.Strconv.AtoiInnerAll
import Derived.Shelf.Strconv.RangeError
import Derived.Shelf.Strconv.ToErrorRange
import Derived.Shelf.Strconv.AtoiAll
import Derived.Shelf.Strconv.ErrVarAll
import Derived.Shelf.Strconv.ParseUintEmpty
import Derived.Shelf.Strconv.ParseUint10b64
import Derived.Shelf.Strconv.ParseUint10b32
import Derived.Shelf.Strconv.ParseUint10b16
import Derived.Shelf.Strconv.ParseUint10b8
import Derived.Shelf.Strconv.ParseUint10At
import Derived.Shelf.Strconv.ParseInt10At64
import Derived.Shelf.Strconv.ParseInt10At32
import Derived.Shelf.Strconv.ParseInt10At16
import Derived.Shelf.Strconv.ParseInt10At8
import Derived.Shelf.Strconv.ParseInt10All
import Derived.Ground.MpProg
import Derived.Shelf.Pu.ParseUintPublic10
import Derived.Shelf.Pu.ErrVarParseUint
import Derived.Shelf.Strings.Search1
import Derived.Shelf.Strings.Search2
import Derived.Shelf.Strings.Search3
import Derived.Shelf.Strings.Cut
import Derived.Shelf.Strings.Count
import Derived.Shelf.Strings.Shaped
import Derived.Shelf.Strings.Prefix
import Derived.Shelf.Strings.Split
import Derived.Shelf.Strings.SplitShaped
import Derived.Shelf.Unicode.Decode
import Derived.Shelf.Strings.Runes
import Derived.Shelf.Strings.RuneCount
import Derived.Shelf.Strings.IndexAny
import Derived.Shelf.Strings.AsciiSet
import Derived.Shelf.Strings.IndexAnyAll
import Derived.Shelf.Strings.Explode
import Derived.Shelf.Unicode.DecodeSlow
import Derived.Shelf.Unicode.DecodeAny
import Derived.Shelf.Unicode.DecodeLast
import Derived.Shelf.Strings.BuilderCap
import Derived.Shelf.Slices.Turned
import Derived.Shelf.Slices.Equal
import Derived.Ground.Names2Prog
import Derived.Shelf.Slices.SearchI
import Derived.Shelf.Slices.Empties2
import Derived.Test.YtnljjlaececnkaaGreatDoorProg
import Derived.Lib.AppendIntMem
import Derived.Lib.SplitLaws
import Derived.RangeFuncNested
import Derived.RangeFuncBound
import Derived.RangeFuncCalls
import Derived.RangeFuncLeaves
import Derived.Shelf.Abstract
import Derived.Shelf.RegionOpen
import Derived.OwnWalkIn
import Derived.TacticsInMore
import Derived.LoopNIn
import Derived.LoopIn
import Derived.RangeFuncBox
/-
  DERIVED: THE SHELF's CONTRACTS AT THIS DUMP, IN PLAIN WORDS (tools/lay-plain.mjs out of 'YtnljjlaececnkaaGreatDoorShelf.lean', which tools/lay-shelf.mjs wrote): THE SAME DECLARATIONS UNDER THE SAME NAMES: 'import', 'namespace', 'open', 'def', 'theorem' AND NOTHING ELSE: no command of the shelf's: FOR A HAND-IN. Each laying: the table of numbers ('.._ren') and one theorem, a field a fact of the dump's own or the kernel's comparison; each contract: ONE APPLICATION.
-/
namespace Go.Proofs
open Go.Shelf
def Tryz.lays169_ren : Go.Shelf.Ren := ⟨fun | 169 => 159 | n => n, fun | 70 => 207 | 9 => 9 | 0 => 0 | 72 => 209 | 37 => 150 | 127 => 253 | 3 => 3 | 5 => 5 | n => n, fun | n => n⟩
theorem Tryz.lays169 : Go.Proofs.Lays.n169 Tryz.prog Tryz.lays169_ren := {
  mixed := by kernel_rfl
  f169 := Tryz.func159.trans (congrArg some (by kernel_rfl))
  t0 := Tryz.underlying0
  a0 := Tryz.isAgg0
  z0 := Tryz.sizeOf0
  v0 := Tryz.zeroValue0
  t3 := Tryz.underlying3
  a3 := Tryz.isAgg3
  z3 := Tryz.sizeOf3
  v3 := Tryz.zeroValue3
  t9 := Tryz.underlying9
  a9 := Tryz.isAgg9
  z9 := Tryz.sizeOf9
  v9 := Tryz.zeroValue9
  t37 := Tryz.underlying150
  a37 := Tryz.isAgg150
  z37 := Tryz.sizeOf150
  v37 := Tryz.zeroValue150
  t70 := Tryz.underlying207
  a70 := Tryz.isAgg207
  z70 := Tryz.sizeOf207
  v70 := Tryz.zeroValue207
  t72 := Tryz.underlying209
  a72 := Tryz.isAgg209
  z72 := Tryz.sizeOf209
  v72 := Tryz.zeroValue209
  t127 := Tryz.underlying253
  a127 := Tryz.isAgg253
  z127 := Tryz.sizeOf253
  v127 := Tryz.zeroValue253 }
theorem Tryz.Builder_Extra_169 : Builder.Extra Tryz.prog Tryz.lays169_ren := {
  sizeBuilder := by kernel_rfl
  liesBuilder := by kernel_rfl
  t5 := Tryz.underlying5
  a5 := Tryz.isAgg5
  z5 := Tryz.sizeOf5
  v5 := Tryz.zeroValue5
  infoByte := by kernel_rfl
  cellsByte := by kernel_rfl
  sizeByte := by kernel_rfl
  neB5 := by decide }
open Go.RowKit in
/-- (*strings.Builder).String: "String returns the accumulated string.": WHATEVER THE BUILDER HOLDS. (LAID: no walk: one application.) -/
theorem Tryz.Builder_String_any (B b : Nat) (l : List UInt8) (w : World) (h : Lib.IsBuilder 209 5 B b (Lib.byteCells l) w) (hBw : B ≤ w.heap.size) :
    Calls Tryz.prog 159 #[.pointer (some ⟨b, 0, none⟩)] w fun e w' => e = .returned (.string ⟨l.toArray⟩) ∧ Below B w w' := Any.Builder_String_any Tryz.lays169 Tryz.Builder_Extra_169 B b l w h hBw
def Tryz.lays156_ren : Go.Shelf.Ren := ⟨fun | 156 => 114 | 165 => 172 | 166 => 173 | 169 => 159 | 240 => 201 | 241 => 210 | 276 => 249 | 277 => 258 | n => n, fun | 31 => 23 | 9 => 9 | 3 => 3 | 4 => 4 | 0 => 0 | 20 => 20 | 72 => 209 | 76 => 159 | 70 => 207 | 37 => 150 | 75 => 158 | 127 => 253 | 164 => 310 | 5 => 5 | 80 => 142 | n => n, fun | n => n⟩
theorem Tryz.lays156 : Go.Proofs.Lays.n156 Tryz.prog Tryz.lays156_ren := {
  mixed := by kernel_rfl
  f156 := Tryz.func114.trans (congrArg some (by kernel_rfl))
  f165 := Tryz.func172.trans (congrArg some (by kernel_rfl))
  f166 := Tryz.func173.trans (congrArg some (by kernel_rfl))
  f169 := Tryz.func159.trans (congrArg some (by kernel_rfl))
  f240 := Tryz.func201.trans (congrArg some (by kernel_rfl))
  f241 := Tryz.func210.trans (congrArg some (by kernel_rfl))
  f276 := Tryz.func249.trans (congrArg some (by kernel_rfl))
  f277 := Tryz.func258.trans (congrArg some (by kernel_rfl))
  t0 := Tryz.underlying0
  a0 := Tryz.isAgg0
  z0 := Tryz.sizeOf0
  v0 := Tryz.zeroValue0
  t3 := Tryz.underlying3
  a3 := Tryz.isAgg3
  z3 := Tryz.sizeOf3
  v3 := Tryz.zeroValue3
  t4 := Tryz.underlying4
  a4 := Tryz.isAgg4
  z4 := Tryz.sizeOf4
  v4 := Tryz.zeroValue4
  t9 := Tryz.underlying9
  a9 := Tryz.isAgg9
  z9 := Tryz.sizeOf9
  v9 := Tryz.zeroValue9
  t20 := Tryz.underlying20
  a20 := Tryz.isAgg20
  z20 := Tryz.sizeOf20
  v20 := Tryz.zeroValue20
  t31 := Tryz.underlying23
  a31 := Tryz.isAgg23
  z31 := Tryz.sizeOf23
  v31 := Tryz.zeroValue23
  t37 := Tryz.underlying150
  a37 := Tryz.isAgg150
  z37 := Tryz.sizeOf150
  v37 := Tryz.zeroValue150
  t70 := Tryz.underlying207
  a70 := Tryz.isAgg207
  z70 := Tryz.sizeOf207
  v70 := Tryz.zeroValue207
  t72 := Tryz.underlying209
  a72 := Tryz.isAgg209
  z72 := Tryz.sizeOf209
  v72 := Tryz.zeroValue209
  t75 := Tryz.underlying158
  a75 := Tryz.isAgg158
  z75 := Tryz.sizeOf158
  v75 := Tryz.zeroValue158
  t76 := Tryz.underlying159
  a76 := Tryz.isAgg159
  z76 := Tryz.sizeOf159
  v76 := Tryz.zeroValue159
  t127 := Tryz.underlying253
  a127 := Tryz.isAgg253
  z127 := Tryz.sizeOf253
  v127 := Tryz.zeroValue253
  t164 := Tryz.underlying310
  a164 := Tryz.isAgg310
  z164 := Tryz.sizeOf310
  v164 := Tryz.zeroValue310 }
theorem Tryz.Builder_Extra_156 : Builder.Extra Tryz.prog Tryz.lays156_ren := {
  sizeBuilder := by kernel_rfl
  liesBuilder := by kernel_rfl
  t5 := Tryz.underlying5
  a5 := Tryz.isAgg5
  z5 := Tryz.sizeOf5
  v5 := Tryz.zeroValue5
  infoByte := by kernel_rfl
  cellsByte := by kernel_rfl
  sizeByte := by kernel_rfl
  neB5 := by decide }
open Go.RowKit in
/-- No element: the empty string; the world is as it was. (Whatever the slice's address and capacity: a nil slice too.) (LAID: no walk: one application.) -/
theorem Tryz.strings_Join_none (a : Option Addr) (c : Nat) (sep : ByteArray) (w : World) :
    Calls Tryz.prog 114 #[.slice a 0 c, .string sep] w fun e w' => e = .returned (.string ⟨#[]⟩) ∧ w' = w := Any.strings_Join_none Tryz.lays156 Tryz.Builder_Extra_156 a c sep w
open Go.RowKit in
/-- strings.Join: "Join concatenates the elements of its first argument to create a single string. The separator string sep is placed between elements in the resulting string.": HOWEVER MANY ELEMENTS. Below the heap's end the world is as it was. (LAID: no walk: one application.) -/
theorem Tryz.strings_Join (bk o c : Nat) (xs : List ByteArray) (sep : ByteArray) (w : World) (hcells : ∀ (j : Nat) x, xs[j]? = some x → w.cell? ⟨bk, o + j, none⟩ = some (.string x)) (hbk : bk < w.heap.size) (hN : xs.length ≤ 140737488355328) (hcap : xs.length ≤ c) (hlen : (Lib.join (xs.map (·.data.toList)) sep.data.toList).length ≤ 140737488355328) :
    Calls Tryz.prog 114 #[.slice (some ⟨bk, o, none⟩) xs.length c, .string sep] w fun e w' => e = .returned (.string ⟨(Lib.join (xs.map (·.data.toList)) sep.data.toList).toArray⟩) ∧ Below w.heap.size w w' := Any.strings_Join Tryz.lays156 Tryz.Builder_Extra_156 bk o c xs sep w hcells hbk hN hcap hlen
def Tryz.lays137_ren : Go.Shelf.Ren := ⟨fun | 137 => 308 | 217 => 266 | 266 => 303 | n => n, fun | 9 => 9 | 5 => 5 | 3 => 3 | n => n, fun | n => n⟩
theorem Tryz.lays137 : Go.Proofs.Lays.n137 Tryz.prog Tryz.lays137_ren := {
  mixed := by kernel_rfl
  f137 := Tryz.func308.trans (congrArg some (by kernel_rfl))
  f217 := Tryz.func266.trans (congrArg some (by kernel_rfl))
  f266 := Tryz.func303.trans (congrArg some (by kernel_rfl))
  t3 := Tryz.underlying3
  a3 := Tryz.isAgg3
  z3 := Tryz.sizeOf3
  v3 := Tryz.zeroValue3
  t5 := Tryz.underlying5
  a5 := Tryz.isAgg5
  z5 := Tryz.sizeOf5
  v5 := Tryz.zeroValue5
  t9 := Tryz.underlying9
  a9 := Tryz.isAgg9
  z9 := Tryz.sizeOf9
  v9 := Tryz.zeroValue9 }
open Go.RowKit in
/-- strings.IndexByte: "IndexByte returns the index of the first instance of c in s, or -1 if c is not present in s.": IT RETURNS 'Lib.indexByte s c'; the world is as it was. (LAID: no walk: one application.) -/
theorem Tryz.strings_IndexByte (s : ByteArray) (c : Int) (w : World) :
    Calls Tryz.prog 308 #[.string s, .int .u8 c] w fun e w' => e = .returned (.int .i64 (Lib.indexByte s.data.toList c.toNat.toUInt8)) ∧ w' = w := Any.strings_IndexByte Tryz.lays137 s c w
def Tryz.laysM171_ren : Go.Shelf.Ren := ⟨fun | 171 => 117 | 243 => 176 | 246 => 216 | 283 => 219 | 284 => 220 | 285 => 221 | 286 => 222 | 129 => 262 | 317 => 261 | 318 => 263 | 319 => 264 | 320 => 265 | 337 => 301 | 338 => 302 | n => n, fun | 3 => 3 | 9 => 9 | 2 => 2 | 4 => 4 | 171 => 285 | 0 => 0 | 53 => 161 | 37 => 150 | 5 => 5 | 173 => 288 | 212 => 324 | 51 => 263 | 20 => 20 | 213 => 325 | 46 => 216 | 232 => 381 | 233 => 382 | n => n, fun | 17 => 3 | 18 => 6 | 19 => 7 | n => n⟩
theorem Tryz.laysM171 : Go.Proofs.LaysM.n171 Tryz.prog Tryz.laysM171_ren := {
  mixed := by kernel_rfl
  f129 := Tryz.func262.trans (congrArg some (by kernel_rfl))
  f171 := Tryz.func117.trans (congrArg some (by kernel_rfl))
  f243 := Tryz.func176.trans (congrArg some (by kernel_rfl))
  f246 := Tryz.func216.trans (congrArg some (by kernel_rfl))
  f283 := Tryz.func219.trans (congrArg some (by kernel_rfl))
  f284 := Tryz.func220.trans (congrArg some (by kernel_rfl))
  f285 := Tryz.func221.trans (congrArg some (by kernel_rfl))
  f286 := Tryz.func222.trans (congrArg some (by kernel_rfl))
  f317 := Tryz.func261.trans (congrArg some (by kernel_rfl))
  f318 := Tryz.func263.trans (congrArg some (by kernel_rfl))
  f319 := Tryz.func264.trans (congrArg some (by kernel_rfl))
  f320 := Tryz.func265.trans (congrArg some (by kernel_rfl))
  f337 := Tryz.func301.trans (congrArg some (by kernel_rfl))
  f338 := Tryz.func302.trans (congrArg some (by kernel_rfl))
  t0 := Tryz.underlying0
  a0 := Tryz.isAgg0
  z0 := Tryz.sizeOf0
  v0 := Tryz.zeroValue0
  t2 := Tryz.underlying2
  a2 := Tryz.isAgg2
  z2 := Tryz.sizeOf2
  v2 := Tryz.zeroValue2
  t3 := Tryz.underlying3
  a3 := Tryz.isAgg3
  z3 := Tryz.sizeOf3
  v3 := Tryz.zeroValue3
  t4 := Tryz.underlying4
  a4 := Tryz.isAgg4
  z4 := Tryz.sizeOf4
  v4 := Tryz.zeroValue4
  t5 := Tryz.underlying5
  a5 := Tryz.isAgg5
  z5 := Tryz.sizeOf5
  v5 := Tryz.zeroValue5
  t9 := Tryz.underlying9
  a9 := Tryz.isAgg9
  z9 := Tryz.sizeOf9
  v9 := Tryz.zeroValue9
  t20 := Tryz.underlying20
  a20 := Tryz.isAgg20
  z20 := Tryz.sizeOf20
  v20 := Tryz.zeroValue20
  t37 := Tryz.underlying150
  a37 := Tryz.isAgg150
  z37 := Tryz.sizeOf150
  v37 := Tryz.zeroValue150
  t46 := Tryz.underlying216
  a46 := Tryz.isAgg216
  z46 := Tryz.sizeOf216
  v46 := Tryz.zeroValue216
  t51 := Tryz.underlying263
  a51 := Tryz.isAgg263
  z51 := Tryz.sizeOf263
  v51 := Tryz.zeroValue263
  t53 := Tryz.underlying161
  a53 := Tryz.isAgg161
  z53 := Tryz.sizeOf161
  v53 := Tryz.zeroValue161
  t171 := Tryz.underlying285
  a171 := Tryz.isAgg285
  z171 := Tryz.sizeOf285
  v171 := Tryz.zeroValue285
  t173 := Tryz.underlying288
  a173 := Tryz.isAgg288
  z173 := Tryz.sizeOf288
  v173 := Tryz.zeroValue288
  t212 := Tryz.underlying324
  a212 := Tryz.isAgg324
  z212 := Tryz.sizeOf324
  v212 := Tryz.zeroValue324
  t213 := Tryz.underlying325
  a213 := Tryz.isAgg325
  z213 := Tryz.sizeOf325
  t232 := Tryz.underlying381
  a232 := Tryz.isAgg381
  z232 := Tryz.sizeOf381
  v232 := Tryz.zeroValue381
  t233 := Tryz.underlying382
  a233 := Tryz.isAgg382
  z233 := Tryz.sizeOf382
  v233 := Tryz.zeroValue382
  g17 := by kernel_rfl
  g18 := by kernel_rfl
  g19 := by kernel_rfl
  i0 := by kernel_rfl
  i2 := by kernel_rfl
  i3 := by kernel_rfl
  i4 := by kernel_rfl
  i5 := by kernel_rfl
  i9 := by kernel_rfl
  i20 := by kernel_rfl
  i37 := by kernel_rfl
  i46 := by kernel_rfl
  i51 := by kernel_rfl
  i53 := by kernel_rfl
  i171 := by kernel_rfl
  i173 := by kernel_rfl
  i212 := by kernel_rfl
  i232 := by kernel_rfl
  i233 := by kernel_rfl
  m17 := by kernel_rfl
  m18 := by kernel_rfl
  m19 := by kernel_rfl }
open Go.RowKit Go.Sort Go.Lib in
/-- strconv.Itoa: "Itoa is equivalent to FormatInt(int64(i), 10).": i's DECIMAL NUMERAL ('Lib.itoa': a '-' where i is negative, then the digits), FOR EVERY int. The world behind the call: the world before it, new blocks behind the heap (the library's 'var a [24]byte'), draws. (LAID: no walk: one application.) -/
theorem Tryz.strconv_Itoa (n : Int) (h0 : -9223372036854775808 ≤ n) (h1 : n ≤ 9223372036854775807) (w : World) (htab : Lib.TabIs Tryz.prog w "internal/strconv.uint64pow10" .u64 Lib.pow10Tab) :
    Calls Tryz.prog 117 #[.int .i64 n] w fun e w' => e = .returned (.string ⟨(Lib.itoa n).toArray⟩) ∧ ∃ k os, w' = grow (w.drewN k) os := Any.strconv_Itoa Tryz.laysM171 n h0 h1 w htab
def Tryz.laysC245_ren : Go.Shelf.Ren := ⟨fun | 245 => 175 | 279 => 212 | 280 => 213 | 281 => 214 | 282 => 215 | 316 => 259 | 171 => 117 | 205 => 260 | 243 => 176 | 246 => 216 | 283 => 219 | 284 => 220 | 285 => 221 | 286 => 222 | 129 => 262 | 317 => 261 | 318 => 263 | 319 => 264 | 320 => 265 | 337 => 301 | 338 => 302 | n => n, fun | 9 => 9 | 3 => 3 | 75 => 158 | 167 => 277 | 4 => 4 | 168 => 280 | 210 => 321 | 37 => 150 | 0 => 0 | 127 => 253 | 145 => 356 | 143 => 354 | 2 => 2 | 171 => 285 | 53 => 161 | 5 => 5 | 173 => 288 | 212 => 324 | 51 => 263 | 20 => 20 | 213 => 325 | 46 => 216 | 232 => 381 | 233 => 382 | 80 => 142 | n => n, fun | 15 => 1 | 16 => 2 | 17 => 3 | 18 => 6 | 19 => 7 | n => n⟩
theorem Tryz.laysC245 : Go.Proofs.LaysC.n245 Tryz.prog Tryz.laysC245_ren := {
  mixed := by kernel_rfl
  f129 := Tryz.func262.trans (congrArg some (by kernel_rfl))
  f171 := Tryz.func117.trans (congrArg some (by kernel_rfl))
  f205 := Tryz.func260.trans (congrArg some (by kernel_rfl))
  f243 := Tryz.func176.trans (congrArg some (by kernel_rfl))
  f245 := Tryz.func175.trans (congrArg some (by kernel_rfl))
  f246 := Tryz.func216.trans (congrArg some (by kernel_rfl))
  f279 := Tryz.func212.trans (congrArg some (by kernel_rfl))
  f280 := Tryz.func213.trans (congrArg some (by kernel_rfl))
  f281 := Tryz.func214.trans (congrArg some (by kernel_rfl))
  f282 := Tryz.func215.trans (congrArg some (by kernel_rfl))
  f283 := Tryz.func219.trans (congrArg some (by kernel_rfl))
  f284 := Tryz.func220.trans (congrArg some (by kernel_rfl))
  f285 := Tryz.func221.trans (congrArg some (by kernel_rfl))
  f286 := Tryz.func222.trans (congrArg some (by kernel_rfl))
  f316 := Tryz.func259.trans (congrArg some (by kernel_rfl))
  f317 := Tryz.func261.trans (congrArg some (by kernel_rfl))
  f318 := Tryz.func263.trans (congrArg some (by kernel_rfl))
  f319 := Tryz.func264.trans (congrArg some (by kernel_rfl))
  f320 := Tryz.func265.trans (congrArg some (by kernel_rfl))
  f337 := Tryz.func301.trans (congrArg some (by kernel_rfl))
  f338 := Tryz.func302.trans (congrArg some (by kernel_rfl))
  t0 := Tryz.underlying0
  a0 := Tryz.isAgg0
  z0 := Tryz.sizeOf0
  v0 := Tryz.zeroValue0
  t2 := Tryz.underlying2
  a2 := Tryz.isAgg2
  z2 := Tryz.sizeOf2
  v2 := Tryz.zeroValue2
  t3 := Tryz.underlying3
  a3 := Tryz.isAgg3
  z3 := Tryz.sizeOf3
  v3 := Tryz.zeroValue3
  t4 := Tryz.underlying4
  a4 := Tryz.isAgg4
  z4 := Tryz.sizeOf4
  v4 := Tryz.zeroValue4
  t5 := Tryz.underlying5
  a5 := Tryz.isAgg5
  z5 := Tryz.sizeOf5
  v5 := Tryz.zeroValue5
  t9 := Tryz.underlying9
  a9 := Tryz.isAgg9
  z9 := Tryz.sizeOf9
  v9 := Tryz.zeroValue9
  t20 := Tryz.underlying20
  a20 := Tryz.isAgg20
  z20 := Tryz.sizeOf20
  v20 := Tryz.zeroValue20
  t37 := Tryz.underlying150
  a37 := Tryz.isAgg150
  z37 := Tryz.sizeOf150
  v37 := Tryz.zeroValue150
  t46 := Tryz.underlying216
  a46 := Tryz.isAgg216
  z46 := Tryz.sizeOf216
  v46 := Tryz.zeroValue216
  t51 := Tryz.underlying263
  a51 := Tryz.isAgg263
  z51 := Tryz.sizeOf263
  v51 := Tryz.zeroValue263
  t53 := Tryz.underlying161
  a53 := Tryz.isAgg161
  z53 := Tryz.sizeOf161
  v53 := Tryz.zeroValue161
  t75 := Tryz.underlying158
  a75 := Tryz.isAgg158
  z75 := Tryz.sizeOf158
  v75 := Tryz.zeroValue158
  t127 := Tryz.underlying253
  a127 := Tryz.isAgg253
  z127 := Tryz.sizeOf253
  v127 := Tryz.zeroValue253
  t143 := Tryz.underlying354
  a143 := Tryz.isAgg354
  z143 := Tryz.sizeOf354
  v143 := Tryz.zeroValue354
  t145 := Tryz.underlying356
  a145 := Tryz.isAgg356
  z145 := Tryz.sizeOf356
  v145 := Tryz.zeroValue356
  t167 := Tryz.underlying277
  a167 := Tryz.isAgg277
  z167 := Tryz.sizeOf277
  v167 := Tryz.zeroValue277
  t168 := Tryz.underlying280
  a168 := Tryz.isAgg280
  z168 := Tryz.sizeOf280
  v168 := Tryz.zeroValue280
  t171 := Tryz.underlying285
  a171 := Tryz.isAgg285
  z171 := Tryz.sizeOf285
  v171 := Tryz.zeroValue285
  t173 := Tryz.underlying288
  a173 := Tryz.isAgg288
  z173 := Tryz.sizeOf288
  v173 := Tryz.zeroValue288
  t210 := Tryz.underlying321
  a210 := Tryz.isAgg321
  z210 := Tryz.sizeOf321
  v210 := Tryz.zeroValue321
  t212 := Tryz.underlying324
  a212 := Tryz.isAgg324
  z212 := Tryz.sizeOf324
  v212 := Tryz.zeroValue324
  t213 := Tryz.underlying325
  a213 := Tryz.isAgg325
  z213 := Tryz.sizeOf325
  t232 := Tryz.underlying381
  a232 := Tryz.isAgg381
  z232 := Tryz.sizeOf381
  v232 := Tryz.zeroValue381
  t233 := Tryz.underlying382
  a233 := Tryz.isAgg382
  z233 := Tryz.sizeOf382
  v233 := Tryz.zeroValue382
  g15 := by kernel_rfl
  g16 := by kernel_rfl
  g17 := by kernel_rfl
  g18 := by kernel_rfl
  g19 := by kernel_rfl
  t80 := Tryz.underlying142
  a80 := Tryz.isAgg142
  z80 := Tryz.sizeOf142
  v80 := Tryz.zeroValue142
  i0 := by kernel_rfl
  i2 := by kernel_rfl
  i3 := by kernel_rfl
  i4 := by kernel_rfl
  i5 := by kernel_rfl
  i9 := by kernel_rfl
  i20 := by kernel_rfl
  i37 := by kernel_rfl
  i46 := by kernel_rfl
  i51 := by kernel_rfl
  i53 := by kernel_rfl
  i75 := by kernel_rfl
  i80 := by kernel_rfl
  i127 := by kernel_rfl
  i143 := by kernel_rfl
  i145 := by kernel_rfl
  i167 := by kernel_rfl
  i168 := by kernel_rfl
  i171 := by kernel_rfl
  i173 := by kernel_rfl
  i210 := by kernel_rfl
  i212 := by kernel_rfl
  i232 := by kernel_rfl
  i233 := by kernel_rfl
  m15 := by kernel_rfl
  m16 := by kernel_rfl
  m17 := by kernel_rfl
  m18 := by kernel_rfl
  m19 := by kernel_rfl
  c0 := by kernel_rfl
  c2 := by kernel_rfl
  c3 := by kernel_rfl
  c4 := by kernel_rfl
  c5 := by kernel_rfl
  c9 := by kernel_rfl
  c20 := by kernel_rfl
  c37 := by kernel_rfl
  c46 := by kernel_rfl
  c51 := by kernel_rfl
  c53 := by kernel_rfl
  c75 := by kernel_rfl
  c80 := by kernel_rfl
  c127 := by kernel_rfl
  c143 := by kernel_rfl
  c145 := by kernel_rfl
  c167 := by kernel_rfl
  c168 := by kernel_rfl
  c171 := by kernel_rfl
  c173 := by kernel_rfl
  c210 := by kernel_rfl
  c212 := by kernel_rfl
  c213 := by kernel_rfl
  c232 := by kernel_rfl
  c233 := by kernel_rfl }
open Go.RowKit in
/-- strconv.toError, at the inner package's ErrSyntax: 'syntaxError(fn, s)' as an error: A *NumError IN A NEW BLOCK. (LAID: no walk: one application.) -/
theorem Tryz.strconv_toError_syntax (fn s : ByteArray) (base bits : Int) (ev : Value) (w : World) (hlim : s.size ≤ 281474976710656) (hv : w.cell? ⟨1, 0, none⟩ = some ev) (hev : ev = .nilIface ∨ ∃ te pe, ev = .iface te pe) :
    Calls Tryz.prog 175 #[.string fn, .string s, .int .i64 base, .int .i64 bits, .iface 277 (.int .i64 2)] w fun e w' => ∃ N, e = .returned (.iface 280 (.pointer (some ⟨N, 0, none⟩))) ∧ w.heap.size ≤ N ∧ w'.heap[N]? = some (.cells #[.string fn, .string s, ev] 321 (0, 0)) ∧ Below w.heap.size w w' := Any.strconv_toError_syntax Tryz.laysC245 fn s base bits ev w hlim hv hev
def Tryz.lays321_ren : Go.Shelf.Ren := ⟨fun | 321 => 217 | n => n, fun | 5 => 5 | n => n, fun | n => n⟩
theorem Tryz.lays321 : Go.Proofs.Lays.n321 Tryz.prog Tryz.lays321_ren := {
  mixed := by kernel_rfl
  f321 := Tryz.func217.trans (congrArg some (by kernel_rfl))
  t5 := Tryz.underlying5
  a5 := Tryz.isAgg5
  z5 := Tryz.sizeOf5
  v5 := Tryz.zeroValue5 }
open Go.RowKit in
/-- internal/strconv.lower: 'c | ('x' - 'X')': the bit 32 set. The world is as it was. (LAID: no walk: one application.) -/
theorem Tryz.internal_strconv_lower (c : Int) (w : World) :
    Calls Tryz.prog 217 #[.int .u8 c] w fun e w' => e = .returned (.int .u8 (bits .or .u8 c 32)) ∧ w' = w := Any.internal_strconv_lower Tryz.lays321 c w
def Tryz.lays287_ren : Go.Shelf.Ren := ⟨fun | 287 => 177 | 321 => 217 | 322 => 218 | n => n, fun | 9 => 9 | 3 => 3 | 53 => 161 | 75 => 158 | 4 => 4 | 167 => 277 | 5 => 5 | 46 => 216 | 37 => 150 | 0 => 0 | 21 => 21 | 80 => 142 | n => n, fun | n => n⟩
theorem Tryz.lays287 : Go.Proofs.Lays.n287 Tryz.prog Tryz.lays287_ren := {
  mixed := by kernel_rfl
  f287 := Tryz.func177.trans (congrArg some (by kernel_rfl))
  f321 := Tryz.func217.trans (congrArg some (by kernel_rfl))
  f322 := Tryz.func218.trans (congrArg some (by kernel_rfl))
  t0 := Tryz.underlying0
  a0 := Tryz.isAgg0
  z0 := Tryz.sizeOf0
  v0 := Tryz.zeroValue0
  t3 := Tryz.underlying3
  a3 := Tryz.isAgg3
  z3 := Tryz.sizeOf3
  v3 := Tryz.zeroValue3
  t4 := Tryz.underlying4
  a4 := Tryz.isAgg4
  z4 := Tryz.sizeOf4
  v4 := Tryz.zeroValue4
  t5 := Tryz.underlying5
  a5 := Tryz.isAgg5
  z5 := Tryz.sizeOf5
  v5 := Tryz.zeroValue5
  t9 := Tryz.underlying9
  a9 := Tryz.isAgg9
  z9 := Tryz.sizeOf9
  v9 := Tryz.zeroValue9
  t21 := Tryz.underlying21
  a21 := Tryz.isAgg21
  z21 := Tryz.sizeOf21
  v21 := Tryz.zeroValue21
  t37 := Tryz.underlying150
  a37 := Tryz.isAgg150
  z37 := Tryz.sizeOf150
  v37 := Tryz.zeroValue150
  t46 := Tryz.underlying216
  a46 := Tryz.isAgg216
  z46 := Tryz.sizeOf216
  v46 := Tryz.zeroValue216
  t53 := Tryz.underlying161
  a53 := Tryz.isAgg161
  z53 := Tryz.sizeOf161
  v53 := Tryz.zeroValue161
  t75 := Tryz.underlying158
  a75 := Tryz.isAgg158
  z75 := Tryz.sizeOf158
  v75 := Tryz.zeroValue158
  t167 := Tryz.underlying277
  a167 := Tryz.isAgg277
  z167 := Tryz.sizeOf277
  v167 := Tryz.zeroValue277 }
open Go.RowKit in
/-- strconv.toError, at the inner package's ErrRange: 'rangeError(fn, s)' as an error: A *NumError IN A NEW BLOCK. (LAID: no walk: one application.) -/
theorem Tryz.strconv_toError_range (fn s : ByteArray) (base bits : Int) (ev : Value) (w : World) (hlim : s.size ≤ 281474976710656) (hv : w.cell? ⟨2, 0, none⟩ = some ev) (hev : ev = .nilIface ∨ ∃ te pe, ev = .iface te pe) :
    Calls Tryz.prog 175 #[.string fn, .string s, .int .i64 base, .int .i64 bits, .iface 277 (.int .i64 1)] w fun e w' => ∃ N, e = .returned (.iface 280 (.pointer (some ⟨N, 0, none⟩))) ∧ w.heap.size ≤ N ∧ w'.heap[N]? = some (.cells #[.string fn, .string s, ev] 321 (0, 0)) ∧ Below w.heap.size w w' := Any.strconv_toError_range Tryz.laysC245 fn s base bits ev w hlim hv hev
def Tryz.laysC172_ren : Go.Shelf.Ren := ⟨fun | 172 => 116 | 244 => 174 | 245 => 175 | 247 => 211 | 279 => 212 | 280 => 213 | 281 => 214 | 282 => 215 | 287 => 177 | 316 => 259 | 171 => 117 | 205 => 260 | 321 => 217 | 322 => 218 | 243 => 176 | 246 => 216 | 283 => 219 | 284 => 220 | 285 => 221 | 286 => 222 | 129 => 262 | 317 => 261 | 318 => 263 | 319 => 264 | 320 => 265 | 337 => 301 | 338 => 302 | n => n, fun | 9 => 9 | 3 => 3 | 75 => 158 | 76 => 159 | 4 => 4 | 5 => 5 | 167 => 277 | 37 => 150 | 0 => 0 | 85 => 278 | 2 => 2 | 168 => 280 | 53 => 161 | 175 => 162 | 46 => 216 | 210 => 321 | 127 => 253 | 145 => 356 | 143 => 354 | 21 => 21 | 171 => 285 | 173 => 288 | 212 => 324 | 51 => 263 | 20 => 20 | 213 => 325 | 232 => 381 | 233 => 382 | 80 => 142 | n => n, fun | 15 => 1 | 16 => 2 | 17 => 3 | 18 => 6 | 19 => 7 | n => n⟩
theorem Tryz.laysC172 : Go.Proofs.LaysC.n172 Tryz.prog Tryz.laysC172_ren := {
  mixed := by kernel_rfl
  f129 := Tryz.func262.trans (congrArg some (by kernel_rfl))
  f171 := Tryz.func117.trans (congrArg some (by kernel_rfl))
  f172 := Tryz.func116.trans (congrArg some (by kernel_rfl))
  f205 := Tryz.func260.trans (congrArg some (by kernel_rfl))
  f243 := Tryz.func176.trans (congrArg some (by kernel_rfl))
  f244 := Tryz.func174.trans (congrArg some (by kernel_rfl))
  f245 := Tryz.func175.trans (congrArg some (by kernel_rfl))
  f246 := Tryz.func216.trans (congrArg some (by kernel_rfl))
  f247 := Tryz.func211.trans (congrArg some (by kernel_rfl))
  f279 := Tryz.func212.trans (congrArg some (by kernel_rfl))
  f280 := Tryz.func213.trans (congrArg some (by kernel_rfl))
  f281 := Tryz.func214.trans (congrArg some (by kernel_rfl))
  f282 := Tryz.func215.trans (congrArg some (by kernel_rfl))
  f283 := Tryz.func219.trans (congrArg some (by kernel_rfl))
  f284 := Tryz.func220.trans (congrArg some (by kernel_rfl))
  f285 := Tryz.func221.trans (congrArg some (by kernel_rfl))
  f286 := Tryz.func222.trans (congrArg some (by kernel_rfl))
  f287 := Tryz.func177.trans (congrArg some (by kernel_rfl))
  f316 := Tryz.func259.trans (congrArg some (by kernel_rfl))
  f317 := Tryz.func261.trans (congrArg some (by kernel_rfl))
  f318 := Tryz.func263.trans (congrArg some (by kernel_rfl))
  f319 := Tryz.func264.trans (congrArg some (by kernel_rfl))
  f320 := Tryz.func265.trans (congrArg some (by kernel_rfl))
  f321 := Tryz.func217.trans (congrArg some (by kernel_rfl))
  f322 := Tryz.func218.trans (congrArg some (by kernel_rfl))
  f337 := Tryz.func301.trans (congrArg some (by kernel_rfl))
  f338 := Tryz.func302.trans (congrArg some (by kernel_rfl))
  t0 := Tryz.underlying0
  a0 := Tryz.isAgg0
  z0 := Tryz.sizeOf0
  v0 := Tryz.zeroValue0
  t2 := Tryz.underlying2
  a2 := Tryz.isAgg2
  z2 := Tryz.sizeOf2
  v2 := Tryz.zeroValue2
  t3 := Tryz.underlying3
  a3 := Tryz.isAgg3
  z3 := Tryz.sizeOf3
  v3 := Tryz.zeroValue3
  t4 := Tryz.underlying4
  a4 := Tryz.isAgg4
  z4 := Tryz.sizeOf4
  v4 := Tryz.zeroValue4
  t5 := Tryz.underlying5
  a5 := Tryz.isAgg5
  z5 := Tryz.sizeOf5
  v5 := Tryz.zeroValue5
  t9 := Tryz.underlying9
  a9 := Tryz.isAgg9
  z9 := Tryz.sizeOf9
  v9 := Tryz.zeroValue9
  t20 := Tryz.underlying20
  a20 := Tryz.isAgg20
  z20 := Tryz.sizeOf20
  v20 := Tryz.zeroValue20
  t21 := Tryz.underlying21
  a21 := Tryz.isAgg21
  z21 := Tryz.sizeOf21
  v21 := Tryz.zeroValue21
  t37 := Tryz.underlying150
  a37 := Tryz.isAgg150
  z37 := Tryz.sizeOf150
  v37 := Tryz.zeroValue150
  t46 := Tryz.underlying216
  a46 := Tryz.isAgg216
  z46 := Tryz.sizeOf216
  v46 := Tryz.zeroValue216
  t51 := Tryz.underlying263
  a51 := Tryz.isAgg263
  z51 := Tryz.sizeOf263
  v51 := Tryz.zeroValue263
  t53 := Tryz.underlying161
  a53 := Tryz.isAgg161
  z53 := Tryz.sizeOf161
  v53 := Tryz.zeroValue161
  t75 := Tryz.underlying158
  a75 := Tryz.isAgg158
  z75 := Tryz.sizeOf158
  v75 := Tryz.zeroValue158
  t76 := Tryz.underlying159
  a76 := Tryz.isAgg159
  z76 := Tryz.sizeOf159
  v76 := Tryz.zeroValue159
  t85 := Tryz.underlying278
  a85 := Tryz.isAgg278
  z85 := Tryz.sizeOf278
  v85 := Tryz.zeroValue278
  t127 := Tryz.underlying253
  a127 := Tryz.isAgg253
  z127 := Tryz.sizeOf253
  v127 := Tryz.zeroValue253
  t143 := Tryz.underlying354
  a143 := Tryz.isAgg354
  z143 := Tryz.sizeOf354
  v143 := Tryz.zeroValue354
  t145 := Tryz.underlying356
  a145 := Tryz.isAgg356
  z145 := Tryz.sizeOf356
  v145 := Tryz.zeroValue356
  t167 := Tryz.underlying277
  a167 := Tryz.isAgg277
  z167 := Tryz.sizeOf277
  v167 := Tryz.zeroValue277
  t168 := Tryz.underlying280
  a168 := Tryz.isAgg280
  z168 := Tryz.sizeOf280
  v168 := Tryz.zeroValue280
  t171 := Tryz.underlying285
  a171 := Tryz.isAgg285
  z171 := Tryz.sizeOf285
  v171 := Tryz.zeroValue285
  t173 := Tryz.underlying288
  a173 := Tryz.isAgg288
  z173 := Tryz.sizeOf288
  v173 := Tryz.zeroValue288
  t175 := Tryz.underlying162
  a175 := Tryz.isAgg162
  z175 := Tryz.sizeOf162
  v175 := Tryz.zeroValue162
  t210 := Tryz.underlying321
  a210 := Tryz.isAgg321
  z210 := Tryz.sizeOf321
  v210 := Tryz.zeroValue321
  t212 := Tryz.underlying324
  a212 := Tryz.isAgg324
  z212 := Tryz.sizeOf324
  v212 := Tryz.zeroValue324
  t213 := Tryz.underlying325
  a213 := Tryz.isAgg325
  z213 := Tryz.sizeOf325
  t232 := Tryz.underlying381
  a232 := Tryz.isAgg381
  z232 := Tryz.sizeOf381
  v232 := Tryz.zeroValue381
  t233 := Tryz.underlying382
  a233 := Tryz.isAgg382
  z233 := Tryz.sizeOf382
  v233 := Tryz.zeroValue382
  g15 := by kernel_rfl
  g16 := by kernel_rfl
  g17 := by kernel_rfl
  g18 := by kernel_rfl
  g19 := by kernel_rfl
  t80 := Tryz.underlying142
  a80 := Tryz.isAgg142
  z80 := Tryz.sizeOf142
  v80 := Tryz.zeroValue142
  i0 := by kernel_rfl
  i2 := by kernel_rfl
  i3 := by kernel_rfl
  i4 := by kernel_rfl
  i5 := by kernel_rfl
  i9 := by kernel_rfl
  i20 := by kernel_rfl
  i21 := by kernel_rfl
  i37 := by kernel_rfl
  i46 := by kernel_rfl
  i51 := by kernel_rfl
  i53 := by kernel_rfl
  i75 := by kernel_rfl
  i76 := by kernel_rfl
  i80 := by kernel_rfl
  i85 := by kernel_rfl
  i127 := by kernel_rfl
  i143 := by kernel_rfl
  i145 := by kernel_rfl
  i167 := by kernel_rfl
  i168 := by kernel_rfl
  i171 := by kernel_rfl
  i173 := by kernel_rfl
  i175 := by kernel_rfl
  i210 := by kernel_rfl
  i212 := by kernel_rfl
  i232 := by kernel_rfl
  i233 := by kernel_rfl
  m15 := by kernel_rfl
  m16 := by kernel_rfl
  m17 := by kernel_rfl
  m18 := by kernel_rfl
  m19 := by kernel_rfl
  c0 := by kernel_rfl
  c2 := by kernel_rfl
  c3 := by kernel_rfl
  c4 := by kernel_rfl
  c5 := by kernel_rfl
  c9 := by kernel_rfl
  c20 := by kernel_rfl
  c21 := by kernel_rfl
  c37 := by kernel_rfl
  c46 := by kernel_rfl
  c51 := by kernel_rfl
  c53 := by kernel_rfl
  c75 := by kernel_rfl
  c76 := by kernel_rfl
  c80 := by kernel_rfl
  c85 := by kernel_rfl
  c127 := by kernel_rfl
  c143 := by kernel_rfl
  c145 := by kernel_rfl
  c167 := by kernel_rfl
  c168 := by kernel_rfl
  c171 := by kernel_rfl
  c173 := by kernel_rfl
  c175 := by kernel_rfl
  c210 := by kernel_rfl
  c212 := by kernel_rfl
  c213 := by kernel_rfl
  c232 := by kernel_rfl
  c233 := by kernel_rfl }
open Go.RowKit in
/-- strconv.Atoi, AT EVERY STRING THAT SPELLS AN int ('Lib.atoiAll .. = .ok v'; of whatever length: leading zeros count): v, AND NO ERROR. The world: as it was, or with the one new row that '[]byte(..)' lays. (LAID: no walk: one application.) -/
theorem Tryz.strconv_Atoi_ok (s : ByteArray) (hmax : s.size ≤ 9223372036854775806) (v : Int) (h : Lib.atoiAll s.data.toList = .ok v) (w : World) :
    Calls Tryz.prog 116 #[.string s] w fun e w' => e = .returned (.tuple #[.int .i64 v, .nilIface]) ∧ (w' = w ∨ ∃ t, w' = Lib.bytesWorld w 5 t) := Any.strconv_Atoi_ok Tryz.laysC172 s hmax v h w
open Go.RowKit in
/-- strconv.Atoi, AT EVERY STRING THAT IS NO DECIMAL NUMERAL ('.syntax'): 0, AND AN ERROR THAT IS NOT nil: a *NumError in a new block N: {Func: "Atoi", Num: s's bytes, Err: what the variable ErrSyntax holds}. Of what was there nothing has turned. (LAID: no walk: one application.) -/
theorem Tryz.strconv_Atoi_syntax (s : ByteArray) (hlim : s.size ≤ 281474976710656) (h : Lib.atoiAll s.data.toList = .«syntax») (ev : Value) (w : World) (hv : w.cell? ⟨1, 0, none⟩ = some ev) (hev : ev = .nilIface ∨ ∃ te pe, ev = .iface te pe) :
    Calls Tryz.prog 116 #[.string s] w fun e w' => ∃ N, e = .returned (.tuple #[.int .i64 (0), .iface 280 (.pointer (some ⟨N, 0, none⟩))]) ∧ w.heap.size ≤ N ∧ w'.heap[N]? = some (.cells #[.string ⟨#[65, 116, 111, 105]⟩, .string s, ev] 321 (0, 0)) ∧ Below w.heap.size w w' := Any.strconv_Atoi_syntax Tryz.laysC172 s hlim h ev w hv hev
open Go.RowKit in
/-- strconv.Atoi, AT EVERY NUMERAL THAT NO int HOLDS ('.range'): THE GREATEST OR THE LEAST int, BY THE SIGN ('Lib.atoiSat'), AND AN ERROR THAT IS NOT nil: a *NumError in a new block N: {Func: "Atoi", Num: s's bytes, Err: what the variable ErrRange holds}. Of what was there nothing has turned. (LAID: no walk: one application.) -/
theorem Tryz.strconv_Atoi_range (s : ByteArray) (hlim : s.size ≤ 281474976710656) (h : Lib.atoiAll s.data.toList = .range) (ev : Value) (w : World) (hv : w.cell? ⟨2, 0, none⟩ = some ev) (hev : ev = .nilIface ∨ ∃ te pe, ev = .iface te pe) :
    Calls Tryz.prog 116 #[.string s] w fun e w' => ∃ N, e = .returned (.tuple #[.int .i64 (Lib.atoiSat s.data.toList), .iface 280 (.pointer (some ⟨N, 0, none⟩))]) ∧ w.heap.size ≤ N ∧ w'.heap[N]? = some (.cells #[.string ⟨#[65, 116, 111, 105]⟩, .string s, ev] 321 (0, 0)) ∧ Below w.heap.size w w' := Any.strconv_Atoi_range Tryz.laysC172 s hlim h ev w hv hev
open Go.RowKit in
/-- internal/strconv.ParseUint("", base, bitSize): (0, ErrSyntax): the first test of the text. The world is as it was. (LAID: no walk: one application.) -/
theorem Tryz.internal_strconv_ParseUint_empty (base bits : Int) (w : World) :
    Calls Tryz.prog 177 #[.string ⟨#[]⟩, .int .i64 base, .int .i64 bits] w fun e w' => e = .returned (.tuple #[.int .u64 0, .iface 277 (.int .i64 2)]) ∧ w' = w := Any.internal_strconv_ParseUint_empty Tryz.lays287 base bits w
def Tryz.lays143_ren : Go.Shelf.Ren := ⟨fun | 143 => 204 | 219 => 223 | 217 => 266 | 225 => 267 | 224 => 268 | 267 => 269 | 266 => 303 | 314 => 304 | n => n, fun | 9 => 9 | 3 => 3 | 4 => 4 | 5 => 5 | 46 => 216 | 146 => 358 | 51 => 263 | n => n, fun | 1 => 0 | n => n⟩
theorem Tryz.lays143 : Go.Proofs.Lays.n143 Tryz.prog Tryz.lays143_ren := {
  mixed := by kernel_rfl
  f143 := Tryz.func204.trans (congrArg some (by kernel_rfl))
  f217 := Tryz.func266.trans (congrArg some (by kernel_rfl))
  f219 := Tryz.func223.trans (congrArg some (by kernel_rfl))
  f224 := Tryz.func268.trans (congrArg some (by kernel_rfl))
  f225 := Tryz.func267.trans (congrArg some (by kernel_rfl))
  f266 := Tryz.func303.trans (congrArg some (by kernel_rfl))
  f267 := Tryz.func269.trans (congrArg some (by kernel_rfl))
  f314 := Tryz.func304.trans (congrArg some (by kernel_rfl))
  t3 := Tryz.underlying3
  a3 := Tryz.isAgg3
  z3 := Tryz.sizeOf3
  v3 := Tryz.zeroValue3
  t4 := Tryz.underlying4
  a4 := Tryz.isAgg4
  z4 := Tryz.sizeOf4
  v4 := Tryz.zeroValue4
  t5 := Tryz.underlying5
  a5 := Tryz.isAgg5
  z5 := Tryz.sizeOf5
  v5 := Tryz.zeroValue5
  t9 := Tryz.underlying9
  a9 := Tryz.isAgg9
  z9 := Tryz.sizeOf9
  v9 := Tryz.zeroValue9
  t46 := Tryz.underlying216
  a46 := Tryz.isAgg216
  z46 := Tryz.sizeOf216
  v46 := Tryz.zeroValue216
  t51 := Tryz.underlying263
  a51 := Tryz.isAgg263
  z51 := Tryz.sizeOf263
  v51 := Tryz.zeroValue263
  t146 := Tryz.underlying358
  a146 := Tryz.isAgg358
  z146 := Tryz.sizeOf358
  v146 := Tryz.zeroValue358
  g1 := by kernel_rfl }
open Go.RowKit Go.Lib in
/-- strings.Index: "Index returns the index of the first instance of substr in s, or -1 if substr is not present in s.": AT A substr OF ONE BYTE c: IT RETURNS 'Lib.indexByte s c'; the world is as it was. (LAID: no walk: one application.) -/
theorem Tryz.strings_Index_one (s : ByteArray) (c : UInt8) (w : World) :
    Calls Tryz.prog 204 #[.string s, .string ⟨#[c]⟩] w fun e w' => e = .returned (.int .i64 (Lib.indexByte s.data.toList c)) ∧ w' = w := Any.strings_Index_one Tryz.lays143 s c w
open Go.RowKit Go.Lib in
/-- strings.Index: "Index returns the index of the first instance of substr in s, or -1 if substr is not present in s.": IT RETURNS 'Lib.index s substr'; the world is as it was. (LAID: no walk: one application.) -/
theorem Tryz.strings_Index (s sub : ByteArray) (m : Int) (w : World) (hs : s.size < 4294967281) (hm : w.cell? ⟨0, 0, none⟩ = some (.int .i64 m)) :
    Calls Tryz.prog 204 #[.string s, .string sub] w fun e w' => e = .returned (.int .i64 (Lib.index s.data.toList sub.data.toList)) ∧ w' = w := Any.strings_Index Tryz.lays143 s sub m w hs hm
def Tryz.lays144_ren : Go.Shelf.Ren := ⟨fun | 144 => 169 | 143 => 204 | 219 => 223 | 217 => 266 | 225 => 267 | 224 => 268 | 267 => 269 | 266 => 303 | 314 => 304 | n => n, fun | 9 => 9 | 4 => 4 | 3 => 3 | 5 => 5 | 46 => 216 | 146 => 358 | 51 => 263 | n => n, fun | 1 => 0 | n => n⟩
theorem Tryz.lays144 : Go.Proofs.Lays.n144 Tryz.prog Tryz.lays144_ren := {
  mixed := by kernel_rfl
  f143 := Tryz.func204.trans (congrArg some (by kernel_rfl))
  f144 := Tryz.func169.trans (congrArg some (by kernel_rfl))
  f217 := Tryz.func266.trans (congrArg some (by kernel_rfl))
  f219 := Tryz.func223.trans (congrArg some (by kernel_rfl))
  f224 := Tryz.func268.trans (congrArg some (by kernel_rfl))
  f225 := Tryz.func267.trans (congrArg some (by kernel_rfl))
  f266 := Tryz.func303.trans (congrArg some (by kernel_rfl))
  f267 := Tryz.func269.trans (congrArg some (by kernel_rfl))
  f314 := Tryz.func304.trans (congrArg some (by kernel_rfl))
  t3 := Tryz.underlying3
  a3 := Tryz.isAgg3
  z3 := Tryz.sizeOf3
  v3 := Tryz.zeroValue3
  t4 := Tryz.underlying4
  a4 := Tryz.isAgg4
  z4 := Tryz.sizeOf4
  v4 := Tryz.zeroValue4
  t5 := Tryz.underlying5
  a5 := Tryz.isAgg5
  z5 := Tryz.sizeOf5
  v5 := Tryz.zeroValue5
  t9 := Tryz.underlying9
  a9 := Tryz.isAgg9
  z9 := Tryz.sizeOf9
  v9 := Tryz.zeroValue9
  t46 := Tryz.underlying216
  a46 := Tryz.isAgg216
  z46 := Tryz.sizeOf216
  v46 := Tryz.zeroValue216
  t51 := Tryz.underlying263
  a51 := Tryz.isAgg263
  z51 := Tryz.sizeOf263
  v51 := Tryz.zeroValue263
  t146 := Tryz.underlying358
  a146 := Tryz.isAgg358
  z146 := Tryz.sizeOf358
  v146 := Tryz.zeroValue358
  g1 := by kernel_rfl }
open Go.RowKit Go.Lib in
/-- strings.Contains: "Contains reports whether substr is within s.": AT A substr OF ONE BYTE c: IT RETURNS 'decide (0 ≤ Lib.indexByte s c)'; the world is as it was. (LAID: no walk: one application.) -/
theorem Tryz.strings_Contains_one (s : ByteArray) (c : UInt8) (w : World) :
    Calls Tryz.prog 169 #[.string s, .string ⟨#[c]⟩] w fun e w' => e = .returned (.bool (decide (0 ≤ Lib.indexByte s.data.toList c))) ∧ w' = w := Any.strings_Contains_one Tryz.lays144 s c w
def Tryz.lays145_ren : Go.Shelf.Ren := ⟨fun | 145 => 123 | 220 => 179 | 219 => 223 | 217 => 266 | 225 => 267 | 224 => 268 | 267 => 269 | 266 => 303 | 314 => 304 | n => n, fun | 9 => 9 | 4 => 4 | 59 => 167 | 3 => 3 | 5 => 5 | 46 => 216 | 146 => 358 | 51 => 263 | n => n, fun | 1 => 0 | n => n⟩
theorem Tryz.lays145 : Go.Proofs.Lays.n145 Tryz.prog Tryz.lays145_ren := {
  mixed := by kernel_rfl
  f145 := Tryz.func123.trans (congrArg some (by kernel_rfl))
  f217 := Tryz.func266.trans (congrArg some (by kernel_rfl))
  f219 := Tryz.func223.trans (congrArg some (by kernel_rfl))
  f220 := Tryz.func179.trans (congrArg some (by kernel_rfl))
  f224 := Tryz.func268.trans (congrArg some (by kernel_rfl))
  f225 := Tryz.func267.trans (congrArg some (by kernel_rfl))
  f266 := Tryz.func303.trans (congrArg some (by kernel_rfl))
  f267 := Tryz.func269.trans (congrArg some (by kernel_rfl))
  f314 := Tryz.func304.trans (congrArg some (by kernel_rfl))
  t3 := Tryz.underlying3
  a3 := Tryz.isAgg3
  z3 := Tryz.sizeOf3
  v3 := Tryz.zeroValue3
  t4 := Tryz.underlying4
  a4 := Tryz.isAgg4
  z4 := Tryz.sizeOf4
  v4 := Tryz.zeroValue4
  t5 := Tryz.underlying5
  a5 := Tryz.isAgg5
  z5 := Tryz.sizeOf5
  v5 := Tryz.zeroValue5
  t9 := Tryz.underlying9
  a9 := Tryz.isAgg9
  z9 := Tryz.sizeOf9
  v9 := Tryz.zeroValue9
  t46 := Tryz.underlying216
  a46 := Tryz.isAgg216
  z46 := Tryz.sizeOf216
  v46 := Tryz.zeroValue216
  t51 := Tryz.underlying263
  a51 := Tryz.isAgg263
  z51 := Tryz.sizeOf263
  v51 := Tryz.zeroValue263
  t59 := Tryz.underlying167
  a59 := Tryz.isAgg167
  z59 := Tryz.sizeOf167
  v59 := Tryz.zeroValue167
  t146 := Tryz.underlying358
  a146 := Tryz.isAgg358
  z146 := Tryz.sizeOf358
  v146 := Tryz.zeroValue358
  g1 := by kernel_rfl }
open Go.RowKit Go.Lib in
/-- strings.Cut: "Cut slices s around the first instance of sep, returning the text before and after sep. The found result reports whether sep appears in s. If sep does not appear in s, cut returns s, "", false.": IT RETURNS 'Lib.cut s sep'; the world is as it was but for the count of draws. (LAID: no walk: one application.) -/
theorem Tryz.strings_Cut (s sep : ByteArray) (m : Int) (w : World) (hs : s.size < 4294967281) (hm : w.cell? ⟨0, 0, none⟩ = some (.int .i64 m)) :
    Calls Tryz.prog 123 #[.string s, .string sep] w fun e w' => e = .returned (.tuple #[.string ⟨(Lib.cut s.data.toList sep.data.toList).1.toArray⟩, .string ⟨(Lib.cut s.data.toList sep.data.toList).2.1.toArray⟩, .bool (Lib.cut s.data.toList sep.data.toList).2.2]) ∧ ∃ n, w' = w.drewN n := Any.strings_Cut Tryz.lays145 s sep m w hs hm
def Tryz.lays138_ren : Go.Shelf.Ren := ⟨fun | 138 => 203 | 195 => 250 | 218 => 252 | 143 => 204 | 219 => 223 | 217 => 266 | 225 => 267 | 224 => 268 | 267 => 269 | 266 => 303 | 314 => 304 | n => n, fun | 9 => 9 | 3 => 3 | 4 => 4 | 5 => 5 | 0 => 0 | 46 => 216 | 146 => 358 | 51 => 263 | n => n, fun | 1 => 0 | n => n⟩
theorem Tryz.lays138 : Go.Proofs.Lays.n138 Tryz.prog Tryz.lays138_ren := {
  mixed := by kernel_rfl
  f138 := Tryz.func203.trans (congrArg some (by kernel_rfl))
  f143 := Tryz.func204.trans (congrArg some (by kernel_rfl))
  f195 := Tryz.func250.trans (congrArg some (by kernel_rfl))
  f217 := Tryz.func266.trans (congrArg some (by kernel_rfl))
  f218 := Tryz.func252.trans (congrArg some (by kernel_rfl))
  f219 := Tryz.func223.trans (congrArg some (by kernel_rfl))
  f224 := Tryz.func268.trans (congrArg some (by kernel_rfl))
  f225 := Tryz.func267.trans (congrArg some (by kernel_rfl))
  f266 := Tryz.func303.trans (congrArg some (by kernel_rfl))
  f267 := Tryz.func269.trans (congrArg some (by kernel_rfl))
  f314 := Tryz.func304.trans (congrArg some (by kernel_rfl))
  t0 := Tryz.underlying0
  a0 := Tryz.isAgg0
  z0 := Tryz.sizeOf0
  v0 := Tryz.zeroValue0
  t3 := Tryz.underlying3
  a3 := Tryz.isAgg3
  z3 := Tryz.sizeOf3
  v3 := Tryz.zeroValue3
  t4 := Tryz.underlying4
  a4 := Tryz.isAgg4
  z4 := Tryz.sizeOf4
  v4 := Tryz.zeroValue4
  t5 := Tryz.underlying5
  a5 := Tryz.isAgg5
  z5 := Tryz.sizeOf5
  v5 := Tryz.zeroValue5
  t9 := Tryz.underlying9
  a9 := Tryz.isAgg9
  z9 := Tryz.sizeOf9
  v9 := Tryz.zeroValue9
  t46 := Tryz.underlying216
  a46 := Tryz.isAgg216
  z46 := Tryz.sizeOf216
  v46 := Tryz.zeroValue216
  t51 := Tryz.underlying263
  a51 := Tryz.isAgg263
  z51 := Tryz.sizeOf263
  v51 := Tryz.zeroValue263
  t146 := Tryz.underlying358
  a146 := Tryz.isAgg358
  z146 := Tryz.sizeOf358
  v146 := Tryz.zeroValue358
  g1 := by kernel_rfl }
open Go.RowKit Go.Lib in
/-- strings.Count AT A substr OF ONE BYTE ('hp'): "Count counts the number of non-overlapping instances of substr in s.": IT RETURNS 'Lib.countByte s (that byte)'; the world is as it was. ✋ NO CONTRACT HERE YET at an empty substr (utf8.RuneCountInString) or at a longer one (a loop over strings.Index). (LAID: no walk: one application.) -/
theorem Tryz.strings_Count_one (s : ByteArray) (c : UInt8) (w : World) :
    Calls Tryz.prog 203 #[.string s, .string ⟨#[c]⟩] w fun e w' => e = .returned (.int .i64 (Lib.countByte s.data.toList c)) ∧ w' = w := Any.strings_Count_one Tryz.lays138 s c w
def Tryz.lays146_ren : Go.Shelf.Ren := ⟨fun | 146 => 99 | 221 => 161 | 268 => 202 | 138 => 203 | 143 => 204 | 195 => 250 | 197 => 251 | 218 => 252 | 219 => 223 | 260 => 291 | 217 => 266 | 225 => 267 | 224 => 268 | 267 => 269 | 266 => 303 | 314 => 304 | n => n, fun | 9 => 9 | 31 => 23 | 3 => 3 | 4 => 4 | 0 => 0 | 105 => 313 | 21 => 21 | 5 => 5 | 46 => 216 | 119 => 347 | 139 => 365 | 138 => 364 | 146 => 358 | 51 => 263 | n => n, fun | 1 => 0 | 3 => 4 | 4 => 5 | n => n⟩
theorem Tryz.lays146 : Go.Proofs.Lays.n146 Tryz.prog Tryz.lays146_ren := {
  mixed := by kernel_rfl
  f138 := Tryz.func203.trans (congrArg some (by kernel_rfl))
  f143 := Tryz.func204.trans (congrArg some (by kernel_rfl))
  f146 := Tryz.func99.trans (congrArg some (by kernel_rfl))
  f195 := Tryz.func250.trans (congrArg some (by kernel_rfl))
  f197 := Tryz.func251.trans (congrArg some (by kernel_rfl))
  f217 := Tryz.func266.trans (congrArg some (by kernel_rfl))
  f218 := Tryz.func252.trans (congrArg some (by kernel_rfl))
  f219 := Tryz.func223.trans (congrArg some (by kernel_rfl))
  f221 := Tryz.func161.trans (congrArg some (by kernel_rfl))
  f224 := Tryz.func268.trans (congrArg some (by kernel_rfl))
  f225 := Tryz.func267.trans (congrArg some (by kernel_rfl))
  f260 := Tryz.func291.trans (congrArg some (by kernel_rfl))
  f266 := Tryz.func303.trans (congrArg some (by kernel_rfl))
  f267 := Tryz.func269.trans (congrArg some (by kernel_rfl))
  f268 := Tryz.func202.trans (congrArg some (by kernel_rfl))
  f314 := Tryz.func304.trans (congrArg some (by kernel_rfl))
  t0 := Tryz.underlying0
  a0 := Tryz.isAgg0
  z0 := Tryz.sizeOf0
  v0 := Tryz.zeroValue0
  t3 := Tryz.underlying3
  a3 := Tryz.isAgg3
  z3 := Tryz.sizeOf3
  v3 := Tryz.zeroValue3
  t4 := Tryz.underlying4
  a4 := Tryz.isAgg4
  z4 := Tryz.sizeOf4
  v4 := Tryz.zeroValue4
  t5 := Tryz.underlying5
  a5 := Tryz.isAgg5
  z5 := Tryz.sizeOf5
  v5 := Tryz.zeroValue5
  t9 := Tryz.underlying9
  a9 := Tryz.isAgg9
  z9 := Tryz.sizeOf9
  v9 := Tryz.zeroValue9
  t21 := Tryz.underlying21
  a21 := Tryz.isAgg21
  z21 := Tryz.sizeOf21
  v21 := Tryz.zeroValue21
  t31 := Tryz.underlying23
  a31 := Tryz.isAgg23
  z31 := Tryz.sizeOf23
  v31 := Tryz.zeroValue23
  t46 := Tryz.underlying216
  a46 := Tryz.isAgg216
  z46 := Tryz.sizeOf216
  v46 := Tryz.zeroValue216
  t51 := Tryz.underlying263
  a51 := Tryz.isAgg263
  z51 := Tryz.sizeOf263
  v51 := Tryz.zeroValue263
  t105 := Tryz.underlying313
  a105 := Tryz.isAgg313
  z105 := Tryz.sizeOf313
  v105 := Tryz.zeroValue313
  t119 := Tryz.underlying347
  a119 := Tryz.isAgg347
  z119 := Tryz.sizeOf347
  t138 := Tryz.underlying364
  a138 := Tryz.isAgg364
  z138 := Tryz.sizeOf364
  v138 := Tryz.zeroValue364
  t139 := Tryz.underlying365
  a139 := Tryz.isAgg365
  z139 := Tryz.sizeOf365
  v139 := Tryz.zeroValue365
  t146 := Tryz.underlying358
  a146 := Tryz.isAgg358
  z146 := Tryz.sizeOf358
  v146 := Tryz.zeroValue358
  g1 := by kernel_rfl
  g3 := by kernel_rfl
  g4 := by kernel_rfl }
open Go.RowKit Go.Lib in
/-- strings.Split. (LAID: no walk: one application.) -/
theorem Tryz.strings_Split (s sep : ByteArray) (m : Int) (w : World) (hs : s.size < 4294967281) (hm : w.cell? ⟨0, 0, none⟩ = some (.int .i64 m)) (h1 : 1 ≤ sep.size) :
    Calls Tryz.prog 99 #[.string s, .string sep] w fun e w' =>
      e = .returned (.slice (some ⟨w.heap.size, 0, none⟩) (Lib.countB s sep + 1) (Lib.countB s sep + 1)) ∧ w' = w.alloc (.cells ((Lib.splitB sep 0 (Lib.countB s sep) s).map Value.string).toArray 9) := Any.strings_Split Tryz.lays146 (by kernel_rfl) s sep m w hs hm h1
def Tryz.lays150_ren : Go.Shelf.Ren := ⟨fun | 150 => 206 | 153 => 254 | 152 => 293 | 226 => 294 | 227 => 244 | 228 => 288 | 137 => 308 | 119 => 309 | 224 => 268 | 225 => 267 | 217 => 266 | 266 => 303 | n => n, fun | 9 => 9 | 4 => 4 | 3 => 3 | 5 => 5 | 21 => 21 | 117 => 306 | 116 => 305 | 0 => 0 | 46 => 216 | 124 => 309 | n => n, fun | n => n⟩
theorem Tryz.lays150 : Go.Proofs.Lays.n150 Tryz.prog Tryz.lays150_ren := {
  mixed := by kernel_rfl
  f119 := Tryz.func309.trans (congrArg some (by kernel_rfl))
  f137 := Tryz.func308.trans (congrArg some (by kernel_rfl))
  f150 := Tryz.func206.trans (congrArg some (by kernel_rfl))
  f152 := Tryz.func293.trans (congrArg some (by kernel_rfl))
  f153 := Tryz.func254.trans (congrArg some (by kernel_rfl))
  f217 := Tryz.func266.trans (congrArg some (by kernel_rfl))
  f224 := Tryz.func268.trans (congrArg some (by kernel_rfl))
  f225 := Tryz.func267.trans (congrArg some (by kernel_rfl))
  f226 := Tryz.func294.trans (congrArg some (by kernel_rfl))
  f227 := Tryz.func244.trans (congrArg some (by kernel_rfl))
  f228 := Tryz.func288.trans (congrArg some (by kernel_rfl))
  f266 := Tryz.func303.trans (congrArg some (by kernel_rfl))
  t0 := Tryz.underlying0
  a0 := Tryz.isAgg0
  z0 := Tryz.sizeOf0
  v0 := Tryz.zeroValue0
  t3 := Tryz.underlying3
  a3 := Tryz.isAgg3
  z3 := Tryz.sizeOf3
  v3 := Tryz.zeroValue3
  t4 := Tryz.underlying4
  a4 := Tryz.isAgg4
  z4 := Tryz.sizeOf4
  v4 := Tryz.zeroValue4
  t5 := Tryz.underlying5
  a5 := Tryz.isAgg5
  z5 := Tryz.sizeOf5
  v5 := Tryz.zeroValue5
  t9 := Tryz.underlying9
  a9 := Tryz.isAgg9
  z9 := Tryz.sizeOf9
  v9 := Tryz.zeroValue9
  t21 := Tryz.underlying21
  a21 := Tryz.isAgg21
  z21 := Tryz.sizeOf21
  v21 := Tryz.zeroValue21
  t46 := Tryz.underlying216
  a46 := Tryz.isAgg216
  z46 := Tryz.sizeOf216
  v46 := Tryz.zeroValue216
  t116 := Tryz.underlying305
  a116 := Tryz.isAgg305
  z116 := Tryz.sizeOf305
  t117 := Tryz.underlying306
  a117 := Tryz.isAgg306
  z117 := Tryz.sizeOf306
  v117 := Tryz.zeroValue306
  t124 := Tryz.underlying309
  a124 := Tryz.isAgg309
  z124 := Tryz.sizeOf309
  v124 := Tryz.zeroValue309 }
open Go.RowKit Go.Lib in
theorem Tryz.strings_ContainsAny_laid (s chars : ByteArray) (w : World) (hs : s.size < 4294967281) (hcs : chars.size < 4294967281) (has : ∀ (j : Nat) b, s.data.toList[j]? = some b → b.toNat < 128) (hac : ∀ (j : Nat) b, chars.data.toList[j]? = some b → b.toNat < 128) :
    Calls Tryz.prog 206 #[.string s, .string chars] w fun e w' => e = .returned (.bool (Lib.containsAny s.data.toList chars.data.toList)) ∧ Below w.heap.size w w' := Any.strings_ContainsAny_laid Tryz.lays150 (by kernel_rfl) s chars w hs hcs has hac
def Tryz.lays110_ren : Go.Shelf.Ren := ⟨fun | 110 => 132 | 109 => 183 | n => n, fun | 31 => 23 | 9 => 9 | 4 => 4 | 3 => 3 | 0 => 0 | n => n, fun | n => n⟩
theorem Tryz.lays110 : Go.Proofs.Lays.n110 Tryz.prog Tryz.lays110_ren := {
  mixed := by kernel_rfl
  f109 := Tryz.func183.trans (congrArg some (by kernel_rfl))
  f110 := Tryz.func132.trans (congrArg some (by kernel_rfl))
  t0 := Tryz.underlying0
  a0 := Tryz.isAgg0
  z0 := Tryz.sizeOf0
  v0 := Tryz.zeroValue0
  t3 := Tryz.underlying3
  a3 := Tryz.isAgg3
  z3 := Tryz.sizeOf3
  v3 := Tryz.zeroValue3
  t4 := Tryz.underlying4
  a4 := Tryz.isAgg4
  z4 := Tryz.sizeOf4
  v4 := Tryz.zeroValue4
  t9 := Tryz.underlying9
  a9 := Tryz.isAgg9
  z9 := Tryz.sizeOf9
  v9 := Tryz.zeroValue9
  t31 := Tryz.underlying23
  a31 := Tryz.isAgg23
  z31 := Tryz.sizeOf23
  v31 := Tryz.zeroValue23 }
open Go.Lib in
/-- slices.Contains at []string: "Contains reports whether v is present in s.": IT RETURNS 'Lib.containsS (the elements) v', which is true just where v is among them ('Lib.containsS_iff'); the world is as it was. ITS CALLEE slices.Index IS MET BY ITS OWN CONTRACT OFF THE SHELF (lay that first): no loop is walked here. (LAID: no walk: one application.) -/
theorem Tryz.slices_Contains_string (b off n c : Nat) (zs : List ByteArray) (x : ByteArray) (w : World) (hz : n ≤ zs.length) (hbig : n ≤ 9223372036854775807) (hc : ∀ j, j < zs.length → w.cell? ⟨b, off + j, none⟩ = some (.string (zs.getD j ByteArray.empty))) :
    Calls Tryz.prog 132 #[.slice (some ⟨b, off, none⟩) n c, .string x] w fun e w' => e = .returned (.bool (Lib.containsS (zs.take n) x)) ∧ w' = w := Any.slices_Contains_string Tryz.lays110 b off n c zs x w hz hbig hc
open Go.Lib in
/-- The same at a slice of length 0, a nil one too. (LAID: no walk: one application.) -/
theorem Tryz.slices_Contains_string_empty (a : Option Addr) (c : Nat) (x : ByteArray) (w : World) :
    Calls Tryz.prog 132 #[.slice a 0 c, .string x] w fun e w' => e = .returned (.bool false) ∧ w' = w := Any.slices_Contains_string_empty Tryz.lays110 a c x w
end Go.Proofs
/-
  Texts of addresses: what the program's inner functions answer, as plain Lean. No condition.
-/
namespace Go.Proofs.YtnljjlaececnkaaGreatDoor
open Go.RowKit
set_option linter.unusedVariables false
set_option linter.unusedSimpArgs false
def dotB : ByteArray := ⟨#[46]⟩
def colB : ByteArray := ⟨#[58]⟩
def gapB : ByteArray := ⟨#[58, 58]⟩
def slashB : ByteArray := ⟨#[47]⟩
/-- A text's pieces. -/
def pieces (s sep : ByteArray) : List ByteArray := Lib.splitB sep 0 (Lib.countB s sep) s
/-- A number without a 0 ahead. -/
def decS (s : ByteArray) (most : Int) : Option Int :=
  match Lib.atoiAll s.data.toList with
  | .ok v => if (s.size : Int) ≤ most ∧ Lib.itoa v = s.data.toList ∧ 0 ≤ v then some v else none
  | _ => none
/-- .. that is a byte. -/
def octS (s : ByteArray) : Option Int := match decS s 3 with
  | some v => if v ≤ 255 then some v else none
  | none => none
def octV (s : ByteArray) : Int := (octS s).getD 0
/-- Four numbers. -/
def quadL (l : List ByteArray) : Option (List Int) := if l.length = 4 ∧ l.all (fun t => (octS t).isSome) then some (mapd ++ l.map octV) else none
def quadS (s : ByteArray) : Option (List Int) := quadL (pieces s dotB)
/-- A digit of base 16. -/
def hexD (c : UInt8) : Option Nat :=
  if 48 ≤ c.toNat ∧ c.toNat ≤ 57 then some (c.toNat - 48) else if 97 ≤ c.toNat ∧ c.toNat ≤ 102 then some (c.toNat - 87) else if 65 ≤ c.toNat ∧ c.toNat ≤ 70 then some (c.toNat - 55) else none
def hexFrom (acc : Nat) : List UInt8 → Option Nat
  | [] => some acc
  | c :: r => match hexD c with
    | some d => hexFrom (16 * acc + d) r
    | none => none
/-- A group. -/
def grpS (t : ByteArray) : Option Nat := if t.size = 0 ∨ 4 < t.size then none else hexFrom 0 t.data.toList
def grpV (t : ByteArray) : List Int := [(((grpS t).getD 0 / 256 : Nat) : Int), (((grpS t).getD 0 % 256 : Nat) : Int)]
/-- Groups. -/
def grpsL (l : List ByteArray) : Option (List Int) := if l.all (fun t => (grpS t).isSome) then some (l.map grpV).flatten else none
def grpsS (s : ByteArray) : Option (List Int) := if s.size = 0 then some [] else grpsL (pieces s colB)
def colS (s : ByteArray) : Option (List Int) :=
  match Lib.cut s.data.toList gapB.data.toList with
  | (l, r, gap) => match grpsS ⟨l.toArray⟩, grpsS ⟨r.toArray⟩ with
    | some b, some c => if (gap = false ∧ b.length ≠ 16) ∨ (gap = true ∧ 14 < b.length + c.length) then none else some (b ++ List.replicate (16 - b.length - c.length) 0 ++ c)
    | _, _ => none
/-- A prefix's text: what ahead of the slash, its length, off; none: no such text. -/
def rawS (s : ByteArray) : Option Pf :=
  match Lib.cut s.data.toList slashB.data.toList with
  | (l, r, _) => match decS ⟨r.toArray⟩ 3 with
    | some n => match quadS ⟨l.toArray⟩ with
      | some a => some ⟨a, 96 + n⟩
      | none => match colS ⟨l.toArray⟩ with
        | some a => some ⟨a, n⟩
        | none => none
    | none => none
def parsePS (s : ByteArray) : Pf × Int := match rawS s with
  | some p => if chk p then (p, 0) else (zeroP, 21)
  | none => (zeroP, 20)
end Go.Proofs.YtnljjlaececnkaaGreatDoor
/-
  What the package variables hold; decimal. Condition: the variables hold what their initialisers laid; a text is no longer than memory has room for.
-/
namespace Go.Proofs.YtnljjlaececnkaaGreatDoor
open Go.RowKit
set_option linter.unusedVariables false
set_option linter.unusedSimpArgs false
/-- What the variables hold that the code reads. -/
structure EnvC (W : World) : Prop where
  mx : ∃ m, W.cell? ⟨0, 0, none⟩ = some (.int .i64 m)
  es : ∃ ev, W.cell? ⟨1, 0, none⟩ = some ev ∧ (ev = .nilIface ∨ ∃ te pe, ev = .iface te pe)
  er : ∃ ev, W.cell? ⟨2, 0, none⟩ = some ev ∧ (ev = .nilIface ∨ ∃ te pe, ev = .iface te pe)
  pow : Lib.TabIs Tryz.prog W "internal/strconv.uint64pow10" .u64 Lib.pow10Tab
  tz : W.cell? ⟨7, 15, none⟩ = some (.int .u8 4)
abbrev Env (W : World) : Prop := Ev EnvC W
theorem atoi_bounds {l : List UInt8} {v : Int} (h : Lib.atoiAll l = .ok v) : -9223372036854775808 ≤ v ∧ v ≤ 9223372036854775807 := Lib.atoiAll_bounds h
/-- What decimal answers. -/
def DecR (s : ByteArray) (most : Int) (e : Ending) : Prop := ∃ n b, e = .returned (.tuple #[.int .i64 n, .bool b]) ∧ b = (decS s most).isSome ∧ ∀ v, decS s most = some v → n = v
theorem decS_ok {s : ByteArray} {most v : Int} (h : Lib.atoiAll s.data.toList = .ok v) : decS s most = if (s.size : Int) ≤ most ∧ Lib.itoa v = s.data.toList ∧ 0 ≤ v then some v else none := by unfold decS; rw [h]
theorem DecR.no {s : ByteArray} {most n : Int} (h : decS s most = none) : DecR s most (.returned (.tuple #[.int .i64 n, .bool false])) := ⟨n, false, rfl, by rw [h]; rfl, fun v hv => by rw [h] at hv; cases hv⟩
theorem belAtoi {w w' : World} {e : TypeId} (h : w' = w ∨ ∃ t, w' = Lib.bytesWorld w e t) : Below w.heap.size w w' := by
  rcases h with rfl | ⟨t, rfl⟩
  · exact Below.refl _ _
  · exact Lib.bytesWorld_below _ _ _
set_option maxRecDepth 100000 in
set_option maxHeartbeats 1600000 in
theorem dec_any {w : World} (E : Env w) (s : ByteArray) (hs : s.size ≤ 140737488351232) (most : Int) : Calls Tryz.prog 124 #[.string s, .int .i64 most] w fun e w' => DecR s most e ∧ Below w.heap.size w w' := by
  obtain ⟨ev1, hv1, he1⟩ := (E.go (Below.refl _ _)).1.es
  obtain ⟨ev2, hv2, he2⟩ := (E.go (Below.refl _ _)).1.er
  replace he1 := Lib.hid he1
  replace he2 := Lib.hid he2
  cases ha : Lib.atoiAll s.data.toList with
  | «syntax» =>
    have hr : decS s most = none := by unfold decS; rw [ha]
    go_enter Tryz.func124, Tryz.ntmps124
    go_wp2_with (go_at_call 116; refine (Tryz.strconv_Atoi_syntax s (by omega) ha ev1 w hv1 he1.out).mono ?_; rintro e w' ⟨N, rfl, -, -, bel⟩)
    go_ret2
    exact ⟨DecR.no hr, bel⟩
  | range =>
    have hr : decS s most = none := by unfold decS; rw [ha]
    go_enter Tryz.func124, Tryz.ntmps124
    go_wp2_with (go_at_call 116; refine (Tryz.strconv_Atoi_range s (by omega) ha ev2 w hv2 he2.out).mono ?_; rintro e w' ⟨N, rfl, -, -, bel⟩)
    go_ret2
    exact ⟨DecR.no hr, bel⟩
  | ok v =>
    obtain ⟨hv0, hv1⟩ := atoi_bounds ha
    have hd := decS_ok (most := most) ha
    obtain ⟨le, hle⟩ : ∃ c, decide ((s.size : Int) ≤ most) = c := ⟨_, rfl⟩
    obtain ⟨c, hc⟩ : ∃ c, ((⟨(Lib.itoa v).toArray⟩ : ByteArray).toList == s.toList) = c := ⟨_, rfl⟩
    have hcB : (Lib.itoa v == s.toList) = c := by rw [← hc, ByteArray.toList_eq (⟨(Lib.itoa v).toArray⟩ : ByteArray)]
    have hc2 : Lib.itoa v = s.data.toList ↔ c = true := by rw [← hc, beq_iff_eq, ByteArray.toList_eq, ByteArray.toList_eq]
    obtain ⟨p, hp⟩ : ∃ c, decide (0 ≤ v) = c := ⟨_, rfl⟩
    replace hc2 := Lib.hid hc2
    cases le
    · have hr : decS s most = none := by rw [hd, if_neg (fun h => of_decide_eq_false hle h.1)]
      go_enter Tryz.func124, Tryz.ntmps124
      go_wp2_with (go_at_call 116; refine (Tryz.strconv_Atoi_ok s (by omega) v ha w).mono ?_; rintro e w1 ⟨rfl, hw⟩; have bel : Below w.heap.size w w1 := belAtoi hw; clear hw)
      go_ret2
      exact ⟨DecR.no hr, bel⟩
    · cases c
      · have hr : decS s most = none := by rw [hd, if_neg (fun h => Bool.noConfusion (hc2.out.1 h.2.1))]
        go_enter Tryz.func124, Tryz.ntmps124
        go_wp2_with (first | (go_at_call 116; refine (Tryz.strconv_Atoi_ok s (by omega) v ha w).mono ?_; rintro e w1 ⟨rfl, hw⟩; have bel : Below w.heap.size w w1 := belAtoi hw; clear hw) | (refine wpList_quiet (C := Bx w w.heap.size []) 19 (by rfl) ⟨bel, trivial, bel.size⟩ ?_))
        refine wpQuiet_hide ?_
        intro lq hlq
        refine wpQuiet_step_h hlq ?_
        clear hlq lq
        intro K lq hlq hK
        refine wanted_go (by rfl) ?_
        refine ⟨?_, fun W hW => ?_, ?_⟩
        rotate_left
        · skip
          go_simp
          with_reducible rfl
        refine hK _ ?_
        clear hK K
        (try simp only [Act.put, List.setIfInBounds_toArray, List.set_cons_zero, List.set_cons_succ])
        refine wpQuiet_step_h hlq ?_
        clear hlq lq
        intro K lq hlq hK
        refine wanted_go (by rfl) ?_
        refine ⟨?_, fun W hW => ?_, ?_⟩
        rotate_left
        · skip
          go_simp
          with_reducible rfl
        refine hK _ ?_
        clear hK K
        (try simp only [Act.put, List.setIfInBounds_toArray, List.set_cons_zero, List.set_cons_succ])
        refine wpQuiet_step_h hlq ?_
        clear hlq lq
        intro K lq hlq hK
        refine wanted_go (by rfl) ?_
        refine ⟨?_, fun W hW => ?_, ?_⟩
        rotate_left
        · skip
          go_simp
          with_reducible rfl
        refine hK _ ?_
        clear hK K
        (try simp only [Act.put, List.setIfInBounds_toArray, List.set_cons_zero, List.set_cons_succ])
        refine wpQuiet_step_h hlq ?_
        clear hlq lq
        intro K lq hlq hK
        refine wanted_go (by rfl) ?_
        refine ⟨?_, fun W hW => ?_, ?_⟩
        rotate_left
        · skip
          go_simp
          with_reducible rfl
        refine hK _ ?_
        clear hK K
        (try simp only [Act.put, List.setIfInBounds_toArray, List.set_cons_zero, List.set_cons_succ])
        refine wpQuiet_step_h hlq ?_
        clear hlq lq
        intro K lq hlq hK
        refine wanted_go (by rfl) ?_
        refine ⟨?_, fun W hW => ?_, ?_⟩
        rotate_left
        · skip
          go_simp
          with_reducible rfl
        refine hK _ ?_
        clear hK K
        (try simp only [Act.put, List.setIfInBounds_toArray, List.set_cons_zero, List.set_cons_succ])
        refine wpQuiet_step_h hlq ?_
        clear hlq lq
        intro K lq hlq hK
        refine wanted_go (by rfl) ?_
        refine ⟨?_, fun W hW => ?_, ?_⟩
        rotate_left
        · skip
          go_simp
          with_reducible rfl
        refine hK _ ?_
        clear hK K
        (try simp only [Act.put, List.setIfInBounds_toArray, List.set_cons_zero, List.set_cons_succ])
        refine wpQuiet_step_h hlq ?_
        clear hlq lq
        intro K lq hlq hK
        refine wanted_go (by rfl) ?_
        refine ⟨?_, fun W hW => ?_, ?_⟩
        rotate_left
        · skip
          go_simp
          with_reducible rfl
        refine hK _ ?_
        clear hK K
        (try simp only [Act.put, List.setIfInBounds_toArray, List.set_cons_zero, List.set_cons_succ])
        refine wpQuiet_step_h hlq ?_
        clear hlq lq
        intro K lq hlq hK
        refine wanted_go (by rfl) ?_
        refine ⟨?_, fun W hW => ?_, ?_⟩
        rotate_left
        · skip
          go_simp
          with_reducible rfl
        refine hK _ ?_
        clear hK K
        (try simp only [Act.put, List.setIfInBounds_toArray, List.set_cons_zero, List.set_cons_succ])
        refine wpQuiet_step_h hlq ?_
        clear hlq lq
        intro K lq hlq hK
        refine wanted_go (by rfl) ?_
        refine ⟨?_, fun W hW => ?_, ?_⟩
        rotate_left
        · skip
          go_simp
          with_reducible rfl
        refine hK _ ?_
        clear hK K
        (try simp only [Act.put, List.setIfInBounds_toArray, List.set_cons_zero, List.set_cons_succ])
        refine wpQuiet_step_h hlq ?_
        clear hlq lq
        intro K lq hlq hK
        refine wanted_go (by rfl) ?_
        refine ⟨.string ⟨(Lib.itoa v).toArray⟩, fun W hW => ?_, ?_⟩
        · go_simp
          refine (Tryz.strconv_Itoa v hv0 hv1 W (E.go hW.1).1.pow).mono fun e W2 hc2 => ⟨hc2.1, ?_⟩
          obtain ⟨k, os, rfl⟩ := hc2.2
          exact hW.go (Lib.below_grow _ _ (Nat.le_refl _) k os)
        refine hK _ ?_
        clear hK K
        (try simp only [Act.put, List.setIfInBounds_toArray, List.set_cons_zero, List.set_cons_succ])
        refine wpQuiet_step_h hlq ?_
        clear hlq lq
        intro K lq hlq hK
        refine wanted_go (by rfl) ?_
        refine ⟨?_, fun W hW => ?_, ?_⟩
        rotate_left
        · skip
          go_simp
          with_reducible rfl
        refine hK _ ?_
        clear hK K
        (try simp only [Act.put, List.setIfInBounds_toArray, List.set_cons_zero, List.set_cons_succ])
        refine wpQuiet_step_h hlq ?_
        clear hlq lq
        intro K lq hlq hK
        refine wanted_go (by rfl) ?_
        refine ⟨?_, fun W hW => ?_, ?_⟩
        rotate_left
        · skip
          go_simp
          with_reducible rfl
        refine hK _ ?_
        clear hK K
        (try simp only [Act.put, List.setIfInBounds_toArray, List.set_cons_zero, List.set_cons_succ])
        refine wpQuiet_step_h hlq ?_
        clear hlq lq
        intro K lq hlq hK
        refine wanted_go (by rfl) ?_
        refine ⟨?_, fun W hW => ?_, ?_⟩
        rotate_left
        · skip
          go_simp
          with_reducible rfl
        refine hK _ ?_
        clear hK K
        (try simp only [Act.put, List.setIfInBounds_toArray, List.set_cons_zero, List.set_cons_succ])
        refine wpQuiet_step_h hlq ?_
        clear hlq lq
        intro K lq hlq hK
        refine wanted_go (by rfl) ?_
        refine ⟨?_, fun W hW => ?_, ?_⟩
        rotate_left
        · skip
          go_simp
          with_reducible rfl
        refine hK _ ?_
        clear hK K
        (try simp only [Act.put, List.setIfInBounds_toArray, List.set_cons_zero, List.set_cons_succ])
        refine wpQuiet_step_h hlq ?_
        clear hlq lq
        intro K lq hlq hK
        go_simp
        refine hK _ ?_
        clear hK K
        refine wpQuiet_step_h hlq ?_
        clear hlq lq
        intro K lq hlq hK
        go_simp
        refine hK _ ?_
        clear hK K
        refine wpQuiet_step_h hlq ?_
        clear hlq lq
        intro K lq hlq hK
        refine wanted_go (by rfl) ?_
        refine ⟨?_, fun W hW => ?_, ?_⟩
        rotate_left
        · skip
          go_simp
          with_reducible rfl
        refine hK _ ?_
        clear hK K
        (try simp only [Act.put, List.setIfInBounds_toArray, List.set_cons_zero, List.set_cons_succ])
        refine wpQuiet_step_h hlq ?_
        clear hlq lq
        intro K lq hlq hK
        refine wanted_go (by rfl) ?_
        refine ⟨?_, fun W hW => ?_, ?_⟩
        rotate_left
        · skip
          go_simp
          with_reducible rfl
        refine hK _ ?_
        clear hK K
        (try simp only [Act.put, List.setIfInBounds_toArray, List.set_cons_zero, List.set_cons_succ])
        refine wpQuiet_step_h hlq ?_
        clear hlq lq
        intro K lq hlq hK
        refine wanted_go (by rfl) ?_
        refine ⟨?_, fun W hW => ?_, ?_⟩
        rotate_left
        · skip
          go_simp
          with_reducible rfl
        refine hK _ ?_
        clear hK K
        (try simp only [Act.put, List.setIfInBounds_toArray, List.set_cons_zero, List.set_cons_succ])
        refine wpQuiet_nil_h hlq ?_
        clear hlq lq
        intro w' hC'
        go_wp2_with fail
        go_ret2
        exact ⟨DecR.no hr, hC'.1⟩
      · cases p
        · have hr : decS s most = none := by rw [hd, if_neg (fun h => of_decide_eq_false hp h.2.2)]
          go_enter Tryz.func124, Tryz.ntmps124
          go_wp2_with (first | (go_at_call 116; refine (Tryz.strconv_Atoi_ok s (by omega) v ha w).mono ?_; rintro e w1 ⟨rfl, hw⟩; have bel : Below w.heap.size w w1 := belAtoi hw; clear hw) | (refine wpList_quiet (C := Bx w w.heap.size []) 19 (by rfl) ⟨bel, trivial, bel.size⟩ ?_))
          refine wpQuiet_hide ?_
          intro lq hlq
          refine wpQuiet_step_h hlq ?_
          clear hlq lq
          intro K lq hlq hK
          refine wanted_go (by rfl) ?_
          refine ⟨?_, fun W hW => ?_, ?_⟩
          rotate_left
          · skip
            go_simp
            with_reducible rfl
          refine hK _ ?_
          clear hK K
          (try simp only [Act.put, List.setIfInBounds_toArray, List.set_cons_zero, List.set_cons_succ])
          refine wpQuiet_step_h hlq ?_
          clear hlq lq
          intro K lq hlq hK
          refine wanted_go (by rfl) ?_
          refine ⟨?_, fun W hW => ?_, ?_⟩
          rotate_left
          · skip
            go_simp
            with_reducible rfl
          refine hK _ ?_
          clear hK K
          (try simp only [Act.put, List.setIfInBounds_toArray, List.set_cons_zero, List.set_cons_succ])
          refine wpQuiet_step_h hlq ?_
          clear hlq lq
          intro K lq hlq hK
          refine wanted_go (by rfl) ?_
          refine ⟨?_, fun W hW => ?_, ?_⟩
          rotate_left
          · skip
            go_simp
            with_reducible rfl
          refine hK _ ?_
          clear hK K
          (try simp only [Act.put, List.setIfInBounds_toArray, List.set_cons_zero, List.set_cons_succ])
          refine wpQuiet_step_h hlq ?_
          clear hlq lq
          intro K lq hlq hK
          refine wanted_go (by rfl) ?_
          refine ⟨?_, fun W hW => ?_, ?_⟩
          rotate_left
          · skip
            go_simp
            with_reducible rfl
          refine hK _ ?_
          clear hK K
          (try simp only [Act.put, List.setIfInBounds_toArray, List.set_cons_zero, List.set_cons_succ])
          refine wpQuiet_step_h hlq ?_
          clear hlq lq
          intro K lq hlq hK
          refine wanted_go (by rfl) ?_
          refine ⟨?_, fun W hW => ?_, ?_⟩
          rotate_left
          · skip
            go_simp
            with_reducible rfl
          refine hK _ ?_
          clear hK K
          (try simp only [Act.put, List.setIfInBounds_toArray, List.set_cons_zero, List.set_cons_succ])
          refine wpQuiet_step_h hlq ?_
          clear hlq lq
          intro K lq hlq hK
          refine wanted_go (by rfl) ?_
          refine ⟨?_, fun W hW => ?_, ?_⟩
          rotate_left
          · skip
            go_simp
            with_reducible rfl
          refine hK _ ?_
          clear hK K
          (try simp only [Act.put, List.setIfInBounds_toArray, List.set_cons_zero, List.set_cons_succ])
          refine wpQuiet_step_h hlq ?_
          clear hlq lq
          intro K lq hlq hK
          refine wanted_go (by rfl) ?_
          refine ⟨?_, fun W hW => ?_, ?_⟩
          rotate_left
          · skip
            go_simp
            with_reducible rfl
          refine hK _ ?_
          clear hK K
          (try simp only [Act.put, List.setIfInBounds_toArray, List.set_cons_zero, List.set_cons_succ])
          refine wpQuiet_step_h hlq ?_
          clear hlq lq
          intro K lq hlq hK
          refine wanted_go (by rfl) ?_
          refine ⟨?_, fun W hW => ?_, ?_⟩
          rotate_left
          · skip
            go_simp
            with_reducible rfl
          refine hK _ ?_
          clear hK K
          (try simp only [Act.put, List.setIfInBounds_toArray, List.set_cons_zero, List.set_cons_succ])
          refine wpQuiet_step_h hlq ?_
          clear hlq lq
          intro K lq hlq hK
          refine wanted_go (by rfl) ?_
          refine ⟨?_, fun W hW => ?_, ?_⟩
          rotate_left
          · skip
            go_simp
            with_reducible rfl
          refine hK _ ?_
          clear hK K
          (try simp only [Act.put, List.setIfInBounds_toArray, List.set_cons_zero, List.set_cons_succ])
          refine wpQuiet_step_h hlq ?_
          clear hlq lq
          intro K lq hlq hK
          refine wanted_go (by rfl) ?_
          refine ⟨.string ⟨(Lib.itoa v).toArray⟩, fun W hW => ?_, ?_⟩
          · go_simp
            refine (Tryz.strconv_Itoa v hv0 hv1 W (E.go hW.1).1.pow).mono fun e W2 hc2 => ⟨hc2.1, ?_⟩
            obtain ⟨k, os, rfl⟩ := hc2.2
            exact hW.go (Lib.below_grow _ _ (Nat.le_refl _) k os)
          refine hK _ ?_
          clear hK K
          (try simp only [Act.put, List.setIfInBounds_toArray, List.set_cons_zero, List.set_cons_succ])
          refine wpQuiet_step_h hlq ?_
          clear hlq lq
          intro K lq hlq hK
          refine wanted_go (by rfl) ?_
          refine ⟨?_, fun W hW => ?_, ?_⟩
          rotate_left
          · skip
            go_simp
            with_reducible rfl
          refine hK _ ?_
          clear hK K
          (try simp only [Act.put, List.setIfInBounds_toArray, List.set_cons_zero, List.set_cons_succ])
          refine wpQuiet_step_h hlq ?_
          clear hlq lq
          intro K lq hlq hK
          refine wanted_go (by rfl) ?_
          refine ⟨?_, fun W hW => ?_, ?_⟩
          rotate_left
          · skip
            go_simp
            with_reducible rfl
          refine hK _ ?_
          clear hK K
          (try simp only [Act.put, List.setIfInBounds_toArray, List.set_cons_zero, List.set_cons_succ])
          refine wpQuiet_step_h hlq ?_
          clear hlq lq
          intro K lq hlq hK
          refine wanted_go (by rfl) ?_
          refine ⟨?_, fun W hW => ?_, ?_⟩
          rotate_left
          · skip
            go_simp
            with_reducible rfl
          refine hK _ ?_
          clear hK K
          (try simp only [Act.put, List.setIfInBounds_toArray, List.set_cons_zero, List.set_cons_succ])
          refine wpQuiet_step_h hlq ?_
          clear hlq lq
          intro K lq hlq hK
          refine wanted_go (by rfl) ?_
          refine ⟨?_, fun W hW => ?_, ?_⟩
          rotate_left
          · skip
            go_simp
            with_reducible rfl
          refine hK _ ?_
          clear hK K
          (try simp only [Act.put, List.setIfInBounds_toArray, List.set_cons_zero, List.set_cons_succ])
          refine wpQuiet_step_h hlq ?_
          clear hlq lq
          intro K lq hlq hK
          refine wanted_go (by rfl) ?_
          refine ⟨?_, fun W hW => ?_, ?_⟩
          rotate_left
          · skip
            go_simp
            with_reducible rfl
          refine hK _ ?_
          clear hK K
          (try simp only [Act.put, List.setIfInBounds_toArray, List.set_cons_zero, List.set_cons_succ])
          refine wpQuiet_step_h hlq ?_
          clear hlq lq
          intro K lq hlq hK
          refine wanted_go (by rfl) ?_
          refine ⟨?_, fun W hW => ?_, ?_⟩
          rotate_left
          · skip
            go_simp
            with_reducible rfl
          refine hK _ ?_
          clear hK K
          (try simp only [Act.put, List.setIfInBounds_toArray, List.set_cons_zero, List.set_cons_succ])
          refine wpQuiet_step_h hlq ?_
          clear hlq lq
          intro K lq hlq hK
          refine wanted_go (by rfl) ?_
          refine ⟨?_, fun W hW => ?_, ?_⟩
          rotate_left
          · skip
            go_simp
            with_reducible rfl
          refine hK _ ?_
          clear hK K
          (try simp only [Act.put, List.setIfInBounds_toArray, List.set_cons_zero, List.set_cons_succ])
          refine wpQuiet_step_h hlq ?_
          clear hlq lq
          intro K lq hlq hK
          refine wanted_go (by rfl) ?_
          refine ⟨?_, fun W hW => ?_, ?_⟩
          rotate_left
          · skip
            go_simp
            with_reducible rfl
          refine hK _ ?_
          clear hK K
          (try simp only [Act.put, List.setIfInBounds_toArray, List.set_cons_zero, List.set_cons_succ])
          refine wpQuiet_step_h hlq ?_
          clear hlq lq
          intro K lq hlq hK
          refine wanted_go (by rfl) ?_
          refine ⟨?_, fun W hW => ?_, ?_⟩
          rotate_left
          · skip
            go_simp
            with_reducible rfl
          refine hK _ ?_
          clear hK K
          (try simp only [Act.put, List.setIfInBounds_toArray, List.set_cons_zero, List.set_cons_succ])
          refine wpQuiet_nil_h hlq ?_
          clear hlq lq
          intro w' hC'
          go_wp2_with fail
          go_ret2
          exact ⟨DecR.no hr, hC'.1⟩
        · have hr : decS s most = some v := by rw [hd, if_pos ⟨of_decide_eq_true hle, hc2.out.2 rfl, of_decide_eq_true hp⟩]
          go_enter Tryz.func124, Tryz.ntmps124
          go_wp2_with (first | (go_at_call 116; refine (Tryz.strconv_Atoi_ok s (by omega) v ha w).mono ?_; rintro e w1 ⟨rfl, hw⟩; have bel : Below w.heap.size w w1 := belAtoi hw; clear hw) | (refine wpList_quiet (C := Bx w w.heap.size []) 19 (by rfl) ⟨bel, trivial, bel.size⟩ ?_))
          refine wpQuiet_hide ?_
          intro lq hlq
          refine wpQuiet_step_h hlq ?_
          clear hlq lq
          intro K lq hlq hK
          refine wanted_go (by rfl) ?_
          refine ⟨?_, fun W hW => ?_, ?_⟩
          rotate_left
          · skip
            go_simp
            with_reducible rfl
          refine hK _ ?_
          clear hK K
          (try simp only [Act.put, List.setIfInBounds_toArray, List.set_cons_zero, List.set_cons_succ])
          refine wpQuiet_step_h hlq ?_
          clear hlq lq
          intro K lq hlq hK
          refine wanted_go (by rfl) ?_
          refine ⟨?_, fun W hW => ?_, ?_⟩
          rotate_left
          · skip
            go_simp
            with_reducible rfl
          refine hK _ ?_
          clear hK K
          (try simp only [Act.put, List.setIfInBounds_toArray, List.set_cons_zero, List.set_cons_succ])
          refine wpQuiet_step_h hlq ?_
          clear hlq lq
          intro K lq hlq hK
          refine wanted_go (by rfl) ?_
          refine ⟨?_, fun W hW => ?_, ?_⟩
          rotate_left
          · skip
            go_simp
            with_reducible rfl
          refine hK _ ?_
          clear hK K
          (try simp only [Act.put, List.setIfInBounds_toArray, List.set_cons_zero, List.set_cons_succ])
          refine wpQuiet_step_h hlq ?_
          clear hlq lq
          intro K lq hlq hK
          refine wanted_go (by rfl) ?_
          refine ⟨?_, fun W hW => ?_, ?_⟩
          rotate_left
          · skip
            go_simp
            with_reducible rfl
          refine hK _ ?_
          clear hK K
          (try simp only [Act.put, List.setIfInBounds_toArray, List.set_cons_zero, List.set_cons_succ])
          refine wpQuiet_step_h hlq ?_
          clear hlq lq
          intro K lq hlq hK
          refine wanted_go (by rfl) ?_
          refine ⟨?_, fun W hW => ?_, ?_⟩
          rotate_left
          · skip
            go_simp
            with_reducible rfl
          refine hK _ ?_
          clear hK K
          (try simp only [Act.put, List.setIfInBounds_toArray, List.set_cons_zero, List.set_cons_succ])
          refine wpQuiet_step_h hlq ?_
          clear hlq lq
          intro K lq hlq hK
          refine wanted_go (by rfl) ?_
          refine ⟨?_, fun W hW => ?_, ?_⟩
          rotate_left
          · skip
            go_simp
            with_reducible rfl
          refine hK _ ?_
          clear hK K
          (try simp only [Act.put, List.setIfInBounds_toArray, List.set_cons_zero, List.set_cons_succ])
          refine wpQuiet_step_h hlq ?_
          clear hlq lq
          intro K lq hlq hK
          refine wanted_go (by rfl) ?_
          refine ⟨?_, fun W hW => ?_, ?_⟩
          rotate_left
          · skip
            go_simp
            with_reducible rfl
          refine hK _ ?_
          clear hK K
          (try simp only [Act.put, List.setIfInBounds_toArray, List.set_cons_zero, List.set_cons_succ])
          refine wpQuiet_step_h hlq ?_
          clear hlq lq
          intro K lq hlq hK
          refine wanted_go (by rfl) ?_
          refine ⟨?_, fun W hW => ?_, ?_⟩
          rotate_left
          · skip
            go_simp
            with_reducible rfl
          refine hK _ ?_
          clear hK K
          (try simp only [Act.put, List.setIfInBounds_toArray, List.set_cons_zero, List.set_cons_succ])
          refine wpQuiet_step_h hlq ?_
          clear hlq lq
          intro K lq hlq hK
          refine wanted_go (by rfl) ?_
          refine ⟨?_, fun W hW => ?_, ?_⟩
          rotate_left
          · skip
            go_simp
            with_reducible rfl
          refine hK _ ?_
          clear hK K
          (try simp only [Act.put, List.setIfInBounds_toArray, List.set_cons_zero, List.set_cons_succ])
          refine wpQuiet_step_h hlq ?_
          clear hlq lq
          intro K lq hlq hK
          refine wanted_go (by rfl) ?_
          refine ⟨.string ⟨(Lib.itoa v).toArray⟩, fun W hW => ?_, ?_⟩
          · go_simp
            refine (Tryz.strconv_Itoa v hv0 hv1 W (E.go hW.1).1.pow).mono fun e W2 hc2 => ⟨hc2.1, ?_⟩
            obtain ⟨k, os, rfl⟩ := hc2.2
            exact hW.go (Lib.below_grow _ _ (Nat.le_refl _) k os)
          refine hK _ ?_
          clear hK K
          (try simp only [Act.put, List.setIfInBounds_toArray, List.set_cons_zero, List.set_cons_succ])
          refine wpQuiet_step_h hlq ?_
          clear hlq lq
          intro K lq hlq hK
          refine wanted_go (by rfl) ?_
          refine ⟨?_, fun W hW => ?_, ?_⟩
          rotate_left
          · skip
            go_simp
            with_reducible rfl
          refine hK _ ?_
          clear hK K
          (try simp only [Act.put, List.setIfInBounds_toArray, List.set_cons_zero, List.set_cons_succ])
          refine wpQuiet_step_h hlq ?_
          clear hlq lq
          intro K lq hlq hK
          refine wanted_go (by rfl) ?_
          refine ⟨?_, fun W hW => ?_, ?_⟩
          rotate_left
          · skip
            go_simp
            with_reducible rfl
          refine hK _ ?_
          clear hK K
          (try simp only [Act.put, List.setIfInBounds_toArray, List.set_cons_zero, List.set_cons_succ])
          refine wpQuiet_step_h hlq ?_
          clear hlq lq
          intro K lq hlq hK
          refine wanted_go (by rfl) ?_
          refine ⟨?_, fun W hW => ?_, ?_⟩
          rotate_left
          · skip
            go_simp
            with_reducible rfl
          refine hK _ ?_
          clear hK K
          (try simp only [Act.put, List.setIfInBounds_toArray, List.set_cons_zero, List.set_cons_succ])
          refine wpQuiet_step_h hlq ?_
          clear hlq lq
          intro K lq hlq hK
          refine wanted_go (by rfl) ?_
          refine ⟨?_, fun W hW => ?_, ?_⟩
          rotate_left
          · skip
            go_simp
            with_reducible rfl
          refine hK _ ?_
          clear hK K
          (try simp only [Act.put, List.setIfInBounds_toArray, List.set_cons_zero, List.set_cons_succ])
          refine wpQuiet_step_h hlq ?_
          clear hlq lq
          intro K lq hlq hK
          refine wanted_go (by rfl) ?_
          refine ⟨?_, fun W hW => ?_, ?_⟩
          rotate_left
          · skip
            go_simp
            with_reducible rfl
          refine hK _ ?_
          clear hK K
          (try simp only [Act.put, List.setIfInBounds_toArray, List.set_cons_zero, List.set_cons_succ])
          refine wpQuiet_step_h hlq ?_
          clear hlq lq
          intro K lq hlq hK
          refine wanted_go (by rfl) ?_
          refine ⟨?_, fun W hW => ?_, ?_⟩
          rotate_left
          · skip
            go_simp
            with_reducible rfl
          refine hK _ ?_
          clear hK K
          (try simp only [Act.put, List.setIfInBounds_toArray, List.set_cons_zero, List.set_cons_succ])
          refine wpQuiet_step_h hlq ?_
          clear hlq lq
          intro K lq hlq hK
          refine wanted_go (by rfl) ?_
          refine ⟨?_, fun W hW => ?_, ?_⟩
          rotate_left
          · skip
            go_simp
            with_reducible rfl
          refine hK _ ?_
          clear hK K
          (try simp only [Act.put, List.setIfInBounds_toArray, List.set_cons_zero, List.set_cons_succ])
          refine wpQuiet_step_h hlq ?_
          clear hlq lq
          intro K lq hlq hK
          refine wanted_go (by rfl) ?_
          refine ⟨?_, fun W hW => ?_, ?_⟩
          rotate_left
          · skip
            go_simp
            with_reducible rfl
          refine hK _ ?_
          clear hK K
          (try simp only [Act.put, List.setIfInBounds_toArray, List.set_cons_zero, List.set_cons_succ])
          refine wpQuiet_step_h hlq ?_
          clear hlq lq
          intro K lq hlq hK
          refine wanted_go (by rfl) ?_
          refine ⟨?_, fun W hW => ?_, ?_⟩
          rotate_left
          · skip
            go_simp
            with_reducible rfl
          refine hK _ ?_
          clear hK K
          (try simp only [Act.put, List.setIfInBounds_toArray, List.set_cons_zero, List.set_cons_succ])
          refine wpQuiet_nil_h hlq ?_
          clear hlq lq
          intro w' hC'
          go_wp2_with fail
          go_ret2
          exact ⟨⟨v, true, rfl, by rw [hr]; rfl, fun u hu => by rw [hr] at hu; cases hu; rfl⟩, hC'.1⟩
end Go.Proofs.YtnljjlaececnkaaGreatDoor
/-
  quad: four numbers as an address. Condition: the variables hold what their initialisers laid; a text is no longer than memory has room for.
-/
namespace Go.Proofs.YtnljjlaececnkaaGreatDoor
open Go.RowKit
set_option linter.unusedVariables false
set_option linter.unusedSimpArgs false
theorem split_n {w : World} (E : Env w) {s sep : ByteArray} {l : List ByteArray} {n : Nat} (hs : s.size < 4294967281) (h1 : 1 ≤ sep.size) (hl : pieces s sep = l) (hn : l.length = n) :
    Calls Tryz.prog 99 #[.string s, .string sep] w fun e w' => e = .returned (.slice (some ⟨w.heap.size, 0, none⟩) n n) ∧ w' = w.alloc (.cells (l.map Value.string).toArray 9) := by
  obtain ⟨m, hm⟩ := (E.go (Below.refl _ _)).1.mx
  have hcn : Lib.countB s sep + 1 = n := by rw [← hn, ← hl]; exact (Lib.splitB_all sep h1 0 _ s rfl).symm
  refine (Tryz.strings_Split s sep m w hs hm h1).mono fun e w' h => ?_
  rw [hcn] at h
  rw [← hl]; exact h
theorem dec_oct {w : World} (E : Env w) {t : ByteArray} {v : Int} (hs : t.size ≤ 140737488351232) (h : octS t = some v) : Calls Tryz.prog 124 #[.string t, .int .i64 3] w fun e w' => e = .returned (.tuple #[.int .i64 v, .bool true]) ∧ Below w.heap.size w w' := by
  refine (dec_any E t hs 3).mono fun e w' ⟨⟨n, b, he, hb, hv⟩, bel⟩ => ⟨?_, bel⟩
  unfold octS at h
  split at h
  · rename_i u hu
    split at h
    · cases h; rw [he, hb, hv v hu, hu]; rfl
    · cases h
  · cases h
def NoOct (e : Ending) : Prop := ∃ n b, e = .returned (.tuple #[.int .i64 n, .bool b]) ∧ (b = false ∨ b = true ∧ decide (255 < n) = true)
theorem dec_no {w : World} (E : Env w) {t : ByteArray} (hs : t.size ≤ 140737488351232) (h : octS t = none) : Calls Tryz.prog 124 #[.string t, .int .i64 3] w fun e w' => NoOct e ∧ Below w.heap.size w w' := by
  refine (dec_any E t hs 3).mono fun e w' ⟨⟨n, b, he, hb, hv⟩, bel⟩ => ⟨⟨n, b, he, ?_⟩, bel⟩
  unfold octS at h
  split at h
  · rename_i u hu
    split at h
    · cases h
    · right; rw [hb, hu, hv u hu]; exact ⟨rfl, decide_eq_true (by omega)⟩
  · rename_i hu
    left; rw [hb, hu]; rfl
/-- What is laid after i numbers. -/
def quadPart (l : List ByteArray) (i : Nat) : List Int := mapd ++ ((l.take i).map octV ++ List.replicate (4 - i) 0)
theorem octS_rng {t : ByteArray} {v : Int} (h : octS t = some v) : 0 ≤ v ∧ v ≤ 255 := by
  unfold octS at h
  split at h
  · rename_i u hu
    split at h
    · cases h
      refine ⟨?_, by assumption⟩
      unfold decS at hu
      split at hu
      · split at hu
        · cases hu; omega
        · cases hu
      · cases hu
    · cases h
  · cases h
theorem octV_rng (t : ByteArray) : 0 ≤ octV t ∧ octV t < 256 := by
  unfold octV
  cases h : octS t with
  | none => decide
  | some v => have := octS_rng h; simp; omega
theorem quadPart_ok {l : List ByteArray} (h4 : l.length = 4) {i : Nat} (hi : i ≤ 4) : isA (quadPart l i) := by
  refine ⟨by simp [quadPart, mapd, h4]; omega, fun x hx => ?_⟩
  rcases List.mem_append.1 hx with hx | hx
  · exact (by decide : ∀ y ∈ mapd, (0 : Int) ≤ y ∧ y < 256) x hx
  · rcases List.mem_append.1 hx with hx | hx
    · obtain ⟨t, _, rfl⟩ := List.mem_map.1 hx; exact octV_rng t
    · rw [(List.mem_replicate.1 hx).2]; decide
theorem quadPart_set {l : List ByteArray} {i : Nat} {t : ByteArray} (hi : i < 4) (h4 : l.length = 4) (ht : l[i]? = some t) : (quadPart l i).set (12 + i) (octV t) = quadPart l (i + 1) ∧ (quadPart l i)[12 + i]? = some 0 := by
  have hm : mapd.length = 12 := rfl
  have hl : ((l.take i).map octV).length = i := by simp; omega
  have hr : List.replicate (4 - i) (0 : Int) = 0 :: List.replicate (4 - (i + 1)) 0 := by rw [show 4 - i = (4 - (i + 1)) + 1 by omega, List.replicate_succ]
  unfold quadPart
  refine ⟨?_, ?_⟩
  · rw [List.set_append_right _ _ (by omega), hm, Nat.add_sub_cancel_left, List.set_append_right _ _ (by omega), hl, Nat.sub_self, hr, List.set_cons_zero, take_snoc ht, List.map_append, List.append_assoc]; rfl
  · rw [List.getElem?_append_right (by omega), hm, Nat.add_sub_cancel_left, List.getElem?_append_right (by omega), hl, Nat.sub_self, hr]; rfl
def okA (o : Option (List Int)) : List Int := o.getD zeroA
theorem quad_no {s : ByteArray} {l : List ByteArray} (hl : pieces s dotB = l) (h : l.length ≠ 4 ∨ ∃ t ∈ l, octS t = none) : quadS s = none := by
  unfold quadS quadL
  rw [hl]
  refine if_neg ?_
  rintro ⟨h1, h2⟩
  rcases h with h | ⟨t, ht, hn⟩
  · exact h h1
  · have := List.all_eq_true.1 h2 t ht; rw [hn] at this; cases this
theorem quad_yes {s : ByteArray} {l : List ByteArray} (hl : pieces s dotB = l) (h4 : l.length = 4) (h : ∀ (j : Nat) t, l[j]? = some t → (octS t).isSome = true) : quadS s = some (quadPart l 4) := by
  unfold quadS quadL quadPart
  have hall : l.all (fun t => (octS t).isSome) = true := by
    rw [List.all_eq_true]
    intro t ht
    obtain ⟨j, hj, rfl⟩ := List.mem_iff_getElem.1 ht
    exact h j (l[j]) (List.getElem?_eq_getElem hj)
  rw [hl, if_pos ⟨h4, hall⟩, List.take_of_length_le (by omega)]
  simp
theorem numsA_one (a : List Int) : (nums .u8 a).toArray.all (·.oneCell') = true := all_oneCell_toArray (nums_one _ _)
theorem info42 {a : List Int} (ha : isA a) : (Tryz.prog.info? 42).map (·.size) = some (nums .u8 a).toArray.size := by
  have : (nums .u8 a).toArray.size = 16 := by simp [nums_length, ha.1]
  rw [this]; exact size42
theorem sizeA {a : List Int} (ha : isA a) : (nums .u8 a).toArray.size = 16 := by simp [nums_length, ha.1]
def QuadR (o : Option (List Int)) (e : Ending) : Prop := e = .returned (.tuple #[vA (okA o), .bool o.isSome])
set_option maxRecDepth 100000 in
set_option maxHeartbeats 1600000 in
/-- Not four pieces. -/
theorem quad_len {w : World} (E : Env w) {s : ByteArray} (hs : s.size < 4294967281) {l : List ByteArray} (hl : pieces s dotB = l) (h4 : l.length ≠ 4) : Calls Tryz.prog 101 #[.string s] w fun e w' => QuadR (quadS s) e ∧ Below w.heap.size w w' := by
  rw [quad_no hl (.inl h4)]
  have bel0 : Below w.heap.size w (w.alloc (oA zeroA)) := (Below.refl _ _).alloc (Nat.le_refl _) _
  have E1 := (E.go bel0).2
  obtain ⟨n, hn⟩ : ∃ n, l.length = n := ⟨_, rfl⟩
  have hne : ((n : Int) == 4) = false := by rw [hn] at h4; simp; omega
  have bel : Below w.heap.size w ((w.alloc (oA zeroA)).alloc (.cells (l.map Value.string).toArray 9)) := bel0.alloc (by simp) _
  have hb := Lib.hid (box21 w (oA zeroA) (.cells (l.map Value.string).toArray 9))
  go_enter Tryz.func101, Tryz.ntmps101
  go_wp2_with (first
    | (go_at_call 99; refine (split_n E1 hs (by decide) hl hn).mono ?_; rintro e w1 ⟨rfl, rfl⟩)
    | (refine wpList_load_mid rfl 42 (.tmp 2) rfl w.heap.size 0 rfl (nums .u8 zeroA) _ (row_load hb.out) Tryz.underlying42 rfl (info42 zeroA_ok) ?_)
    | (refine wpList_store_row rfl 42 (.tmp 2) (.tmp 14) rfl w.heap.size _ rfl rfl 42 (nums .u8 zeroA).toArray hb.out (info42 zeroA_ok) rfl (numsA_one _) ?_))
  refine bodyPost_ret (v := .tuple #[vA zeroA, .bool false]) ?_ rfl ⟨rfl, below_row bel (Nat.le_refl _) _⟩
  exact results_cell_tmp rfl _ _ rfl (BoxA.run (a := zeroA) (setRow_heap _ _ _ _ _ _ hb.out) zeroA_ok) rfl
theorem quadPart_zero (l : List ByteArray) : quadPart l 0 = quadPart [] 0 := by simp [quadPart]
set_option maxRecDepth 100000 in
set_option maxHeartbeats 1600000 in
/-- Four pieces. -/
theorem quad_four {w : World} (E : Env w) {s : ByteArray} (hs : s.size < 4294967281) {l : List ByteArray} (hl : pieces s dotB = l) (h4 : l.length = 4) (hsz : ∀ t ∈ l, t.size ≤ 140737488351232) : Calls Tryz.prog 101 #[.string s] w fun e w' => QuadR (quadS s) e ∧ Below w.heap.size w w' := by
  have bel0 : Below w.heap.size w (w.alloc (oA zeroA)) := (Below.refl _ _).alloc (Nat.le_refl _) _
  have E1 := (E.go bel0).2
  have bel : Below w.heap.size w ((w.alloc (oA zeroA)).alloc (.cells (l.map Value.string).toArray 9)) := bel0.alloc (by simp) _
  have hb := Lib.hid (box21 w (oA zeroA) (.cells (l.map Value.string).toArray 9))
  have hp := Lib.hid (box22 w (oA zeroA) (.cells (l.map Value.string).toArray 9))
  have hcp : (Builtin.copy_ #[150, 9] 3 #[.slice (some ⟨w.heap.size, 0, none⟩) 16 16, .string { data := #[0, 0, 0, 0, 0, 0, 0, 0, 0, 0, 255, 255] }]).run Tryz.prog ((w.alloc (oA zeroA)).alloc (.cells (l.map Value.string).toArray 9)) = .ok (.int .i64 12) (((w.alloc (oA zeroA)).alloc (.cells (l.map Value.string).toArray 9)).setRow w.heap.size (nums .u8 (quadPart l 0)).toArray) := by
    rw [Lib.run_copy_row_string _ 150 9 3 5 w.heap.size 0 16 16 _ _ 42 Tryz.underlying150 (by kernel_rfl) hb.out (by decide) (by decide), quadPart_zero]; rfl
  go_enter Tryz.func101, Tryz.ntmps101
  go_wp2_with (first
    | (go_at_call 99; refine (split_n E1 hs (by decide) hl h4).mono ?_; rintro e w1 ⟨rfl, rfl⟩))
  clear hcp
  go_loopw [19] (fun x wr => ∃ i : Nat, x = .int .i64 i ∧ i ≤ 4 ∧ (∀ (j : Nat) t, j < i → l[j]? = some t → (octS t).isSome = true) ∧ wr.heap[w.heap.size]? = some (oA (quadPart l i)) ∧ wr.heap[w.heap.size + 1]? = some (.cells (l.map Value.string).toArray 9 (0, 0)) ∧ Below w.heap.size w wr ∧ w.heap.size + 2 ≤ wr.heap.size) (fun x wr => 4 - (intOf x).toNat)
  case atStart =>
    refine ⟨0, rfl, by omega, fun j t h => by omega, setRow_heap _ _ _ _ _ _ hb.out, ?_, below_row bel (Nat.le_refl _) _, by simp⟩
    rw [setRow_other _ _ _ _ (by omega)]; exact hp.out
  case round =>
    obtain ⟨i, rfl, hi, hall, hr, hr2, bel2, hsz2⟩ := hrel
    clear hb hp bel bel0 E1
    by_cases hlt : i < 4
    · obtain ⟨t, ht⟩ := get_some (l := l) (j := i) (by omega)
      have htz := hsz t (List.mem_of_getElem? ht)
      have E2 := (E.go bel2).2
      have c0 : wr.cell? ⟨w.heap.size + 1, i, none⟩ = some (.string t) := (row_cell hr2).trans (by rw [List.getElem?_toArray, List.getElem?_map, ht]; rfl)
      cases ho : octS t with
      | none =>
        have hq := quad_no hl (.inr ⟨t, List.mem_of_getElem? ht, ho⟩)
        replace hq := Lib.hid hq
        replace hr := Lib.hid hr
        replace hr2 := Lib.hid hr2
        replace hall := Lib.hid hall
        go_wp2_with (first
          | (go_at_call 124; refine (dec_no E2 htz ho).mono ?_; rintro e w1 ⟨⟨n, b, rfl, hb⟩, bel3⟩; have hr3 := Lib.hid (Below.box hr.out bel3 (by omega)); have bel4 := bel2.trans (bel3.mono (by omega)); rcases hb with hb | ⟨hb, hgt⟩ <;> subst hb)
          | (refine wpList_store_row rfl 42 (.tmp 2) (.tmp 35) rfl w.heap.size (nums .u8 zeroA).toArray rfl rfl 42 (nums .u8 (quadPart l i)).toArray hr3.out (info42 zeroA_ok) (by rw [sizeA (quadPart_ok h4 hi), sizeA zeroA_ok]) (numsA_one _) ?_))
        all_goals
          refine bodyPost_ret (v := .tuple #[vA zeroA, .bool false]) ?_ rfl ⟨by unfold QuadR; rw [hq.out]; rfl, below_row bel4 (Nat.le_refl _) _⟩
          exact results_cell_tmp rfl _ _ rfl (BoxA.run (a := zeroA) (setRow_heap _ _ _ _ _ _ hr3.out) zeroA_ok) rfl
      | some v =>
        obtain ⟨v0, v1⟩ := octS_rng ho
        have hov : octV t = v := by unfold octV; rw [ho]; rfl
        obtain ⟨st1, st2⟩ := quadPart_set hlt h4 ht
        rw [hov] at st1
        have hall2 : ∀ (j : Nat) u, j < i + 1 → l[j]? = some u → (octS u).isSome = true := fun j u hj hu => by
          by_cases hji : j = i
          · subst hji; rw [ht] at hu; cases hu; rw [ho]; rfl
          · exact hall j u (by omega) hu
        have g1 : decide (255 < v) = false := decide_eq_false (by omega)
        have wr1 : IntKind.i64.wrap (12 + (i : Int)) = 12 + i := IntWalk.i64_in _ (by omega)
        have wr2 : IntKind.u8.wrap v = v := IntWalk.u8_in _ (by omega)
        replace hr := Lib.hid hr
        replace hr2 := Lib.hid hr2
        replace hall := Lib.hid hall
        replace hall2 := Lib.hid hall2
        replace st1 := Lib.hid st1
        replace st2 := Lib.hid st2
        go_wp2_with (first
          | (go_at_call 124; refine (dec_oct E2 htz ho).mono ?_; rintro e w1 ⟨rfl, bel3⟩; have hr3 := Lib.hid (Below.box hr.out bel3 (by omega)); have hr4 := Lib.hid (Below.box hr2.out bel3 (by omega)); have bel4 := bel2.trans (bel3.mono (by omega)); have c1 : w1.cell? ⟨w.heap.size, 12 + i, none⟩ = some (.int .u8 0) := (row_cell hr3.out).trans (by rw [List.getElem?_toArray]; exact nums_get st2.out); have f1 : w1.frozen? ⟨w.heap.size, 12 + i, none⟩ = false := row_free hr3.out))
        have fr1 := Fr.setCell (S := fun b => b = w.heap.size) (Fr.refl _ w1) (p := ⟨w.heap.size, 12 + i, none⟩) (.inl rfl) (.int .u8 v)
        refine ⟨⟨i + 1, by go_num, by omega, hall2.out, row_set hr3.out (i := 12 + i) (cs' := (nums .u8 (quadPart l (i + 1))).toArray) (.int .u8 v) (by rw [List.setIfInBounds_toArray, nums_set, st1.out]), fr1.obj hr4.out (by omega), bel4.trans (fr1.belowS (fun b hb => Nat.le_of_eq hb.symm) bel4.size), ?_⟩, ?_⟩
        · have := bel3.size
          have := fr1.size
          omega
        · simp [intOf]; omega
    · obtain rfl : i = 4 := by omega
      have hq := Lib.hid (quad_yes hl h4 (fun j t ht => hall j t (by have := (List.getElem?_eq_some_iff.1 ht).1; omega) ht))
      have ok := quadPart_ok h4 (Nat.le_refl 4)
      replace ok := Lib.hid ok
      replace hr := Lib.hid hr
      replace hr2 := Lib.hid hr2
      replace hall := Lib.hid hall
      go_wp2_with (first
        | (refine wpList_load_mid rfl 42 (.tmp 2) rfl w.heap.size 0 rfl (nums .u8 (quadPart l 4)) _ (row_load hr.out) Tryz.underlying42 rfl (info42 ok.out) ?_)
        | (refine wpList_store_row rfl 42 (.tmp 2) (.tmp 42) rfl w.heap.size _ rfl rfl 42 (nums .u8 (quadPart l 4)).toArray hr.out (info42 ok.out) rfl (numsA_one _) ?_))
      refine bodyPost_ret (v := .tuple #[vA (quadPart l 4), .bool true]) ?_ rfl ⟨by unfold QuadR; rw [hq.out]; rfl, below_row bel2 (Nat.le_refl _) _⟩
      exact results_cell_tmp rfl _ _ rfl (BoxA.run (a := quadPart l 4) (setRow_heap _ _ _ _ _ _ hr.out) ok.out) rfl
/-- quad. -/
theorem quad_any {w : World} (E : Env w) {s : ByteArray} (hs : s.size < 4294967281) (hsz : ∀ t ∈ pieces s dotB, t.size ≤ 140737488351232) : Calls Tryz.prog 101 #[.string s] w fun e w' => QuadR (quadS s) e ∧ Below w.heap.size w w' := by
  by_cases h4 : (pieces s dotB).length = 4
  · exact quad_four E hs rfl h4 hsz
  · exact quad_len E hs rfl h4
end Go.Proofs.YtnljjlaececnkaaGreatDoor
/-
  A range over a function whose iterator turns cells of its own between two rounds. No condition.
-/
namespace Go.Proofs.YtnljjlaececnkaaGreatDoor
open Go.RowKit Go.Shelf
set_option linter.unusedVariables false
set_option linter.unusedSimpArgs false
section
variable {α : Type} {F : Fence} {n : Nat} {P : Program}
/-- What an iterator owes that turns (T) cells of its own between the rounds; Kp: what a round that goes on keeps for it. -/
def SeqT (F : Fence) (n : Nat) (P : Program) (g : Nat) (lb : Array Value) (enc : α → Value) (T Kp : World → World → Prop) (G : List α → α → Prop) (S Sp : List α → Prop) (w : World) : Prop :=
  ∀ (l : Nat) (J Jx : List α → World → Prop) (W : World), Below w.heap.size w W → (∀ s A B, J s A → T A B → J s B) → (∀ s A B, Jx s A → T A B → Jx s B) →
    (∀ pre x W1, J pre W1 → G pre x → YieldAt F (n - 1) P l #[enc x] W1 fun e W' => (e = .returned (.bool true) ∧ J (pre ++ [x]) W' ∧ Kp W1 W') ∨ (e = .returned (.bool false) ∧ Jx (pre ++ [x]) W')) →
    J [] W →
    CallsIn F n P g (#[.func (.yield l) #[] #[]] ++ lb) W fun e W' => (∃ v, e = .returned v) ∧ ((∃ xs, S xs ∧ J xs W') ∨ (∃ pre, Sp pre ∧ Jx pre W'))
/-- The law of the statement. -/
theorem wpIn_rangeFunc_T {g : Operand} {ps : Array Tmp} {assign body : Code} {Q : Exit → Act → World → Prop} {a : Act} {w : World}
    (hro : F.round = none) (h1 : 1 ≤ n) {gf : Nat} {lb : Array Value} (hg : a.eval g = .func (.func gf) #[] lb) (hFg : F.fn gf) (eg : ∀ args w, (callFunc gf args).run P w = .ok (.enter gf args) w)
    {enc : α → Value} {T Kp : World → World → Prop} {G : List α → α → Prop} {S Sp : List α → Prop} (hseq : SeqT F (n - 1) P gf lb enc T Kp G S Sp w) (hps : ps.size = 1)
    (hT : ∀ A B, T A B → ∀ k, w.heap.size ≤ k → B.heap[k]? = A.heap[k]?) (hKt : ∀ A B C, Kp A B → Kp B C → Kp A C) (hKp : ∀ W l o, w.heap.size ≤ l → Kp W (W.putObj l o))
    (I : List α → World → Prop) (Ix : Code → List α → World → Prop) (hI : ∀ s A B, I s A → T A B → I s B) (hIx : ∀ c s A B, Ix c s A → T A B → Ix c s B)
    (hIp : OwnFrom w.heap.size I) (hIxp : ∀ c, OwnFrom w.heap.size (Ix c)) (h0 : I [] w) (a₁ : α → Act)
    (hassign : ∀ (l : Nat) (x : α) (W : World) (K : Act → World → Prop), K (a₁ x) W →
      assign.wpIn (F.inRound l) (n - 1 - 1) P (Exit.then K (fun _ _ _ => False)) { tmps := (ps.zip #[enc x]).foldl (fun t (p, v) => t.setIfInBounds p v) a.tmps, defers := [] } W)
    (hbody : ∀ (l : Nat) (pre : List α) (x : α) (W : World), I pre W → G pre x → body.wpIn (F.inRound l) (n - 1 - 1) P (ownPostG w.heap.size Kp I Ix (pre ++ [x]) W) (a₁ x) W)
    (hdone : ∀ (D : Nat) (xs : List α) (W : World), w.heap.size ≤ D → S xs → I xs W → W.heap[D]? = some (.deferred (some [])) → Q .normal { a with defers := { target := .collected D, args := #[] } :: a.defers } W)
    (hstop : ∀ (D : Nat) (c : Code) (pre : List α) (W : World), w.heap.size ≤ D → Sp pre → Ix c pre W → W.heap[D]? = some (.deferred (some [])) → c.wpIn F n P Q { a with defers := { target := .collected D, args := #[] } :: a.defers } W) :
    (Code.rangeFunc g ps assign body).wpIn F n P Q a w := by
  refine wpIn_rangeFunc fun fn hfn => ?_
  rw [hro]
  obtain ⟨L, hL⟩ : ∃ L : LoopState → Option Code → Loop, L = fun st pe => { state := st, pending := pe, fn, tmps := a.tmps, params := ps, assign, body, defers := w.heap.size } := ⟨_, rfl⟩
  have hz : ∀ W : World, (∃ o', W.heap[w.heap.size + 1]? = some (Obj.loop o')) → w.heap.size + 1 < W.heap.size := fun W ⟨_, h⟩ => (Array.getElem?_eq_some_iff.1 h).1
  have n1 : w.heap.size ≠ w.heap.size + 1 := by omega
  have hl1 : ((w.alloc (.deferred (some []))).alloc (.loop (L .ready none))).heap[w.heap.size + 1]? = some (.loop (L .ready none)) := heap_two w _ _
  have hd1 : ((w.alloc (.deferred (some []))).alloc (.loop (L .ready none))).heap[w.heap.size]? = some (.deferred (some [])) := box21 w _ _
  refine ⟨w.heap.size + 1, [{ target := .collected w.heap.size, args := #[] }], (w.alloc (.deferred (some []))).alloc (.loop (L .ready none)), { target := .fn (.func gf) lb, args := #[.func (.yield (w.heap.size + 1)) #[] #[]] }, (w.alloc (.deferred (some []))).alloc (.loop (L .ready none)), gf,
    #[.func (.yield (w.heap.size + 1)) #[] #[]] ++ lb, (w.alloc (.deferred (some []))).alloc (.loop (L .ready none)), ?_, ?_, ?_, ?_, fun _ => h1, ?_⟩
  · rw [hL]; exact run_enterLoop_outer _ _ _ _ _
  · simp only [resolve, hg]
    simp [go_sem]
  · intro f' hf'; simp [Target.leads] at hf'; subst hf'; exact hFg
  · simp [invoke, go_sem, eg]
  · refine (hseq (w.heap.size + 1) (fun pre W => I pre W ∧ W.heap[w.heap.size + 1]? = some (.loop (L .ready none)) ∧ W.heap[w.heap.size]? = some (.deferred (some [])))
      (fun pre W => ∃ c, Ix c pre W ∧ W.heap[w.heap.size + 1]? = some (.loop (L .done (some c))) ∧ W.heap[w.heap.size]? = some (.deferred (some [])))
      _ (((Below.refl _ w).alloc (Nat.le_refl _) _).alloc (by simp) _)
      (fun s A B hs ht => ⟨hI s A B hs.1 ht, (hT A B ht _ (by omega)).trans hs.2.1, (hT A B ht _ (Nat.le_refl _)).trans hs.2.2⟩)
      (fun s A B hs ht => hs.imp fun c hc => ⟨hIx c s A B hc.1 ht, (hT A B ht _ (by omega)).trans hc.2.1, (hT A B ht _ (Nat.le_refl _)).trans hc.2.2⟩)
      (fun pre x W hJ hG => ?_) ⟨hIp.alloc _ (hIp.alloc _ h0), hl1, hd1⟩).mono fun e W2 h => ?_
    · obtain ⟨hi, hl, hk⟩ := hJ
      have hlt := hz W ⟨_, hl⟩
      have hy := run_yield (P := P) (args := #[enc x]) hl (by rw [hL]; exact hps.symm)
      rw [hL] at hy
      refine ⟨fn, _, assign, body, hy, roundIn_of_wpIn hfn (hassign _ x W _ ⟨_, run_beginRound hl (by rw [hL]), ?_⟩)⟩
      have hl2 : (W.putObj (w.heap.size + 1) (.loop { L .ready none with state := .busy })).heap[w.heap.size + 1]? = some (.loop { L .ready none with state := .busy }) := World.putObj_heap_same hlt
      have hk2 : (W.putObj (w.heap.size + 1) (.loop { L .ready none with state := .busy })).heap[w.heap.size]? = some (.deferred (some [])) := (World.putObj_heap_other n1).trans hk
      refine wpIn_mono (hbody _ pre x _ (hIp.putObj _ hi (by omega) hl rfl) hG) fun e a3 W3 hp => ?_
      have fin : ∀ jump : Option Code, KeepsFrom w.heap.size (W.putObj (w.heap.size + 1) (.loop { L .ready none with state := .busy })) W3 →
          (Instr.endRound (w.heap.size + 1) jump).run P W3 = .ok (.bool jump.isNone) (W3.putObj (w.heap.size + 1) (.loop (L (if jump.isNone then .ready else .done) jump))) ∧
          W3.heap[w.heap.size + 1]? = some (.loop { L .ready none with state := .busy }) ∧
          (W3.putObj (w.heap.size + 1) (.loop (L (if jump.isNone then .ready else .done) jump))).heap[w.heap.size + 1]? = some (.loop (L (if jump.isNone then .ready else .done) jump)) ∧
          (W3.putObj (w.heap.size + 1) (.loop (L (if jump.isNone then .ready else .done) jump))).heap[w.heap.size]? = some (.deferred (some [])) := fun jump k3 => by
        have l3 := k3.same _ _ (by omega) hl2 rfl
        have r := run_endRound (P := P) jump l3
        rw [hL] at r l3 ⊢
        exact ⟨r, l3, World.putObj_heap_same (hz W3 ⟨_, l3⟩), (World.putObj_heap_other n1).trans (k3.same _ _ (Nat.le_refl _) hk2 rfl)⟩
      cases e with
      | normal =>
        obtain ⟨k3, kp3, i3⟩ := hp
        obtain ⟨r, l3, l4, d4⟩ := fin none k3
        exact ⟨_, _, r, .inl ⟨rfl, ⟨hIp.putObj _ i3 (by omega) l3 rfl, l4, d4⟩, hKt _ _ _ (hKp W _ _ (by omega)) (hKt _ _ _ kp3 (hKp W3 _ _ (by omega)))⟩⟩
      | ret =>
        obtain ⟨k3, i3⟩ := hp
        obtain ⟨r, l3, l4, d4⟩ := fin (some .ret) k3
        exact ⟨_, _, r, .inr ⟨rfl, .ret, (hIxp _).putObj _ i3 (by omega) l3 rfl, l4, d4⟩⟩
      | exit id =>
        obtain ⟨k3, i3⟩ := hp
        obtain ⟨r, l3, l4, d4⟩ := fin (some (.exit id)) k3
        exact ⟨_, _, r, .inr ⟨rfl, .exit id, (hIxp _).putObj _ i3 (by omega) l3 rfl, l4, d4⟩⟩
      | goto t =>
        obtain ⟨k3, i3⟩ := hp
        obtain ⟨r, l3, l4, d4⟩ := fin (some (.goto t)) k3
        exact ⟨_, _, r, .inr ⟨rfl, .goto t, (hIxp _).putObj _ i3 (by omega) l3 rfl, l4, d4⟩⟩
      | panic ch => exact hp.elim
      | outgrown => exact hp.elim
    · obtain ⟨⟨v, rfl⟩, hh⟩ := h
      rcases hh with ⟨xs, hS, hi, hl, hk⟩ | ⟨pre, hSp, c, hi, hl, hk⟩
      · exact ⟨none, _, by have := run_endLoop (P := P) hl (by rw [hL]; simp); rw [hL] at this; exact this, hdone _ xs _ (Nat.le_refl _) hS (hIp.putObj _ hi (by omega) hl rfl) ((World.putObj_heap_other n1).trans hk)⟩
      · exact ⟨some c, _, by have := run_endLoop (P := P) hl (by rw [hL]; simp); rw [hL] at this; exact this, hstop _ c pre _ (Nat.le_refl _) hSp ((hIxp c).putObj _ hi (by omega) hl rfl) ((World.putObj_heap_other n1).trans hk)⟩
end
end Go.Proofs.YtnljjlaececnkaaGreatDoor
/-
  strings.SplitSeq at a separator of one byte: each piece in turn. No condition.
-/
namespace Go.Proofs.YtnljjlaececnkaaGreatDoor
open Go.RowKit Go.Shelf
set_option linter.unusedVariables false
set_option linter.unusedSimpArgs false
attribute [local go_sem] Oper.semAt_some
/-- The iterator's three boxes lie as they lay. -/
def Kp3 (b : Nat) (A B : World) : Prop := A.heap.size ≤ B.heap.size ∧ ∀ k, b ≤ k → k < b + 3 → B.heap[k]? = A.heap[k]?
def boxLen (b : Nat) (W : World) : Nat := match W.cell? ⟨b, 0, none⟩ with
  | some (.string s) => s.size
  | _ => 0
def SBox (b : Nat) (v : Value) (t : TypeId) (W : World) : Prop := W.heap[b]? = some (.cells #[v] t (0, 0))
theorem idx_n {w : World} {s : ByteArray} {c : UInt8} {n : Int} (h : Lib.indexByte s.data.toList c = n) : Calls Tryz.prog 204 #[.string s, .string ⟨#[c]⟩] w fun e w' => e = .returned (.int .i64 n) ∧ w' = w := by
  rw [← h]; exact Tryz.strings_Index_one s c w
theorem pieces_miss {s : ByteArray} {c : UInt8} (h : Lib.indexByte s.data.toList c = -1) : pieces s ⟨#[c]⟩ = [s] := by
  have h1 : Lib.indexB s ⟨#[c]⟩ = -1 := by rw [← h]; exact Lib.index_one _ _
  exact Lib.splitB_miss _ _ _ _ h1
theorem pieces_hit {s : ByteArray} {c : UInt8} {i : Nat} (h : Lib.indexByte s.data.toList c = i) : pieces s ⟨#[c]⟩ = s.extract 0 i :: pieces (s.extract (i + 1) s.size) ⟨#[c]⟩ := by
  have h1 : Lib.indexB s ⟨#[c]⟩ = i := by rw [← h]; exact Lib.index_one _ _
  unfold pieces
  rw [Lib.countB_hit s ⟨#[c]⟩ i (Nat.le_refl 1) h1, Nat.add_comm, Lib.splitB_hit _ _ _ _ _ h1]
  rfl
theorem index_hit {s : ByteArray} {c : UInt8} (h : Lib.indexByte s.data.toList c ≠ -1) : ∃ i : Nat, Lib.indexByte s.data.toList c = i ∧ i + 1 ≤ s.size := by
  rcases Lib.indexB_cases s ⟨#[c]⟩ with h1 | ⟨i, h1, h2⟩
  · exact absurd ((Lib.index_one _ _).symm.trans h1) h
  · exact ⟨i, (Lib.index_one _ _).symm.trans h1, h2⟩
set_option maxRecDepth 100000 in
set_option maxHeartbeats 1000000 in
theorem seq_in (s : ByteArray) (hs : s.size < 4294967281) (c : UInt8) (l b : Nat) (J Jx : List ByteArray → World → Prop)
    (hJ : ∀ s A B, J s A → (∃ u, B = A.setCell ⟨b, 0, none⟩ u) → J s B) (hJx : ∀ s A B, Jx s A → (∃ u, B = A.setCell ⟨b, 0, none⟩ u) → Jx s B)
    (hY : ∀ pre x W1, J pre W1 → (pre ++ [x]) <+: pieces s ⟨#[c]⟩ → YieldAt Fence.wide 3 Tryz.prog l #[.string x] W1 fun e W' => (e = .returned (.bool true) ∧ J (pre ++ [x]) W' ∧ Kp3 b W1 W') ∨ (e = .returned (.bool false) ∧ Jx (pre ++ [x]) W'))
    (W : World) (h1 : SBox b (.string s) 9 W) (h2 : SBox (b + 1) (.string ⟨#[c]⟩) 9 W) (h3 : SBox (b + 2) (.int .i64 0) 3 W) (h0 : J [] W) :
    CallsIn Fence.wide 4 Tryz.prog 292 #[.func (.yield l) #[] #[], .pointer (some ⟨b + 1, 0, none⟩), .pointer (some ⟨b, 0, none⟩), .pointer (some ⟨b + 2, 0, none⟩)] W fun e W' => (∃ v, e = .returned v) ∧ ((∃ xs, xs = pieces s ⟨#[c]⟩ ∧ J xs W') ∨ (∃ pre, pre <+: pieces s ⟨#[c]⟩ ∧ Jx pre W')) := by
  have c2 : W.cell? ⟨b + 1, 0, none⟩ = some (.string ⟨#[c]⟩) := row_cell h2
  refine callsIn_of_wp Tryz.func292 rfl trivial ?_ rfl
  simp only [Tryz.ntmps292, List.size_toArray, List.length_cons, List.length_nil, Nat.reduceAdd, Nat.reduceSub, Array.replicate_succ, Array.replicate_zero, List.push_toArray, List.append_toArray, List.nil_append, List.cons_append]
  gi_wp2
  gi_loopw [7] (fun x wr => ∃ (pre : List ByteArray) (cur : ByteArray), pieces s ⟨#[c]⟩ = pre ++ pieces cur ⟨#[c]⟩ ∧ cur.size ≤ s.size ∧ SBox b (.string cur) 9 wr ∧ SBox (b + 1) (.string ⟨#[c]⟩) 9 wr ∧ SBox (b + 2) (.int .i64 0) 3 wr ∧ J pre wr) (fun x wr => boxLen b wr)
  case atStart =>
    exact ⟨[], s, rfl, Nat.le_refl _, h1, h2, h3, h0⟩
  case round =>
    obtain ⟨pre, cur, hp, hcs, g1, g2, g3, hj⟩ := hrel
    clear h1 h2 h3 c2 h0
    have c1 : wr.cell? ⟨b, 0, none⟩ = some (.string cur) := row_cell g1
    have f1 : wr.frozen? ⟨b, 0, none⟩ = false := row_free g1
    have c2 : wr.cell? ⟨b + 1, 0, none⟩ = some (.string ⟨#[c]⟩) := row_cell g2
    have c3 : wr.cell? ⟨b + 2, 0, none⟩ = some (.int .i64 0) := row_cell g3
    by_cases hix : Lib.indexByte cur.data.toList c = -1
    · obtain ⟨fn, tmps, assign, body, hy, hR⟩ := hY pre cur wr hj (by rw [hp, pieces_miss hix]; exact List.prefix_refl _)
      gi_wp2_with (refine ⟨trivial, ?_⟩; gi_at_call 204; refine (callsIn_wide.2 (idx_n hix)).mono ?_; rintro e w' ⟨rfl, rfl⟩)
      refine hR.mono ?_
      rintro e W3 (⟨rfl, hJ3, hk3⟩ | ⟨rfl, hJx3⟩)
      · gi_wp2
        go_end0
        exact ⟨⟨_, rfl⟩, .inl ⟨_, by rw [hp, pieces_miss hix], hJ3⟩⟩
      · gi_wp2
        go_end0
        exact ⟨⟨_, rfl⟩, .inr ⟨_, by rw [hp, pieces_miss hix]; exact List.prefix_refl _, hJx3⟩⟩
    · obtain ⟨i, hi, hi2⟩ := index_hit hix
      obtain ⟨fn, tmps, assign, body, hy, hR⟩ := hY pre (cur.extract 0 i) wr hj (by rw [hp, pieces_hit hi]; exact ⟨pieces (cur.extract (i + 1) cur.size) ⟨#[c]⟩, by simp⟩)
      gi_wp2_with (refine ⟨trivial, ?_⟩; gi_at_call 204; refine (callsIn_wide.2 (idx_n hi)).mono ?_; rintro e w' ⟨rfl, rfl⟩)
      refine hR.mono ?_
      rintro e W3 (⟨rfl, hJ3, hk3⟩ | ⟨rfl, hJx3⟩)
      · have k1 : SBox b (.string cur) 9 W3 := (hk3.2 b (Nat.le_refl _) (by omega)).trans g1
        have k2 : SBox (b + 1) (.string ⟨#[c]⟩) 9 W3 := (hk3.2 (b + 1) (by omega) (by omega)).trans g2
        have k3 : SBox (b + 2) (.int .i64 0) 3 W3 := (hk3.2 (b + 2) (by omega) (by omega)).trans g3
        have d1 : W3.cell? ⟨b, 0, none⟩ = some (.string cur) := row_cell k1
        have e1 : W3.frozen? ⟨b, 0, none⟩ = false := row_free k1
        have d2 : W3.cell? ⟨b + 1, 0, none⟩ = some (.string ⟨#[c]⟩) := row_cell k2
        have hsz : (cur.extract (i + 1) cur.size).size = cur.size - (i + 1) := by rw [ByteArray.size_extract]; omega
        replace k1 := Lib.hid k1
        replace k2 := Lib.hid k2
        replace k3 := Lib.hid k3
        gi_wp2
        go_roundw
        case rel =>
          have q1 : SBox b (.string (cur.extract (i + 1) cur.size)) 9 (W3.setCell ⟨b, 0, none⟩ (.string (cur.extract (i + 1) cur.size))) := row_set k1.out (i := 0) (cs' := #[.string (cur.extract (i + 1) cur.size)]) (.string (cur.extract (i + 1) cur.size)) rfl
          refine ⟨pre ++ [cur.extract 0 i], cur.extract (i + 1) cur.size, by rw [hp, pieces_hit hi, List.append_assoc]; rfl, by omega, q1, ?_, ?_, hJ _ _ _ hJ3 ⟨_, rfl⟩⟩
          · exact (Below.heap_setCell _ _ _ _ (by simp)).trans k2.out
          · exact (Below.heap_setCell _ _ _ _ (by simp)).trans k3.out
        case measure =>
          have q1 : (W3.setCell ⟨b, 0, none⟩ (.string (cur.extract (i + 1) cur.size))).cell? ⟨b, 0, none⟩ = some (.string (cur.extract (i + 1) cur.size)) := row_cell (row_set k1.out (i := 0) (cs' := #[.string (cur.extract (i + 1) cur.size)]) (.string (cur.extract (i + 1) cur.size)) rfl)
          unfold boxLen
          rw [q1, c1]
          simp only [hsz]
          omega
      · gi_wp2
        refine bodyPost_ret (results_none rfl _ _ _) rfl ?_
        exact ⟨⟨_, rfl⟩, .inr ⟨pre ++ [cur.extract 0 i], by rw [hp, pieces_hit hi]; exact ⟨pieces (cur.extract (i + 1) cur.size) ⟨#[c]⟩, by simp⟩, hJx3⟩⟩
/-- SplitSeq hands back a value that gives the pieces. -/
theorem seq_stops (s : ByteArray) (hs : s.size < 4294967281) (c : UInt8) (b : Nat) (w : World) (h1 : SBox b (.string s) 9 w) (h2 : SBox (b + 1) (.string ⟨#[c]⟩) 9 w) (h3 : SBox (b + 2) (.int .i64 0) 3 w) :
    SeqT Fence.wide 4 Tryz.prog 292 #[.pointer (some ⟨b + 1, 0, none⟩), .pointer (some ⟨b, 0, none⟩), .pointer (some ⟨b + 2, 0, none⟩)] Value.string (fun A B => ∃ u, B = A.setCell ⟨b, 0, none⟩ u) (Kp3 b) (fun pre x => (pre ++ [x]) <+: pieces s ⟨#[c]⟩) (fun xs => xs = pieces s ⟨#[c]⟩) (fun pre => pre <+: pieces s ⟨#[c]⟩) w := by
  intro l J Jx W hW hJ hJx hY h0
  exact seq_in s hs c l b J Jx hJ hJx hY W (Below.box h1 hW (lt_of_obj h1)) (Below.box h2 hW (lt_of_obj h2)) (Below.box h3 hW (lt_of_obj h3)) h0
set_option maxRecDepth 100000 in
set_option maxHeartbeats 400000 in
theorem splitSeq_any {w : World} (s sep : ByteArray) : Calls Tryz.prog 205 #[.string s, .string sep] w fun e w' => e = .returned (.func (.func 292) #[] #[.pointer (some ⟨w.heap.size + 1, 0, none⟩), .pointer (some ⟨w.heap.size, 0, none⟩), .pointer (some ⟨w.heap.size + 2, 0, none⟩)]) ∧ w' = ((w.alloc (.cells #[.string s] 9)).alloc (.cells #[.string sep] 9)).alloc (.cells #[.int .i64 0] 3) := by
  go_enter Tryz.func205, Tryz.ntmps205
  go_wp2
  go_ret
  exact ⟨rfl, rfl⟩
end Go.Proofs.YtnljjlaececnkaaGreatDoor
