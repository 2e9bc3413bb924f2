/- Part 2 of a proof: the texts Shelf, HHex, HLine, HLines, QFbankend, HWrite, QFref36hex, QFref36End, QFref36decimal, QFref36line, QFref36Write, QFref36WriteAnswer, SText, HLns, SWords, HNum, HScan, SNumb, HForm, put together by a program of this repo. -/
import Derived.Shelf.Strings.Builder1
import Derived.Shelf.Strings.Builder2
import Derived.Shelf.Strings.Trim
import Derived.Shelf.Small.Utf8
import Derived.Shelf.Small.Strs
import Derived.Shelf.Strings.BuilderF
import Derived.Shelf.Strings.BuilderK
import Derived.Shelf.Strings.Builder2Cap
import Derived.Shelf.Strconv.Atoi
import Derived.Shelf.Strconv.Itoa0
import Derived.Shelf.Strconv.Itoa1
import Derived.Shelf.LaysM
import Derived.Shelf.Strconv.Itoa2
import Derived.Shelf.Strconv.Itoa3
import Derived.Shelf.Strconv.AtoiErrFast
import Derived.Shelf.Strconv.ParseIntEmpty
import Derived.Shelf.Strconv.AtoiFail
import Derived.Shelf.Strconv.Clone
import Derived.Shelf.Strconv.SyntaxError
import Derived.Shelf.LaysC
import Derived.Shelf.Strconv.ToError
import Derived.Shelf.Strconv.AtoiErr
import Derived.Shelf.Strconv.ErrVar
import Derived.Shelf.Strconv.Lower
import Derived.Shelf.Strconv.ParseUint10
import Derived.Shelf.Strconv.ParseUint10Empty
import Derived.Shelf.Strconv.ParseUint10Any
import Derived.Shelf.Strconv.ParseInt10
import Derived.Shelf.Strconv.AtoiLong
import Derived.Shelf.Strconv.AtoiInnerAll
import Derived.Shelf.Strconv.RangeError
import Derived.Shelf.Strconv.ToErrorRange
import Derived.Shelf.Strconv.AtoiAll
import Derived.Shelf.Strconv.ErrVarAll
import Derived.Shelf.Strings.Search1
import Derived.Shelf.Strings.Search2
import Derived.Shelf.Strings.Search3
import Derived.Shelf.Strings.Count
import Derived.Shelf.Strings.Shaped
import Derived.Shelf.Strings.Prefix
import Derived.Shelf.Strings.Split
import Derived.Shelf.Strings.SplitShaped
import Derived.Shelf.Unicode.Decode
import Derived.Shelf.Strings.Runes
import Derived.Shelf.Strings.RuneCount
import Derived.Shelf.Strings.AsciiSet
import Derived.Shelf.Strings.Explode
import Derived.Shelf.Bits.Mul64
import Derived.Shelf.Strings.Repeat
import Derived.Shelf.Unicode.DecodeSlow
import Derived.Shelf.Strings.BuilderCap
import Derived.Test.YtndojpcjhkncgaaGreatDoorProg
import Derived.WalkKit
import Derived.OwnWalk
import Derived.Outline
import Derived.Lib.Hide
import Derived.WalkLawsBesides
import Derived.WalkSpells
import Derived.Laws.BytesString
import Derived.Below
import Derived.Lib.AppendIntMem
import Derived.Test.YtndojpcjhkncgaaGreatDoorVMReads1
import Derived.Handy
import Derived.Deep.RegionHeld3
import Derived.Lib.ItoaLen
import Derived.RangeFuncNested
import Derived.RangeFuncBound
import Derived.RangeFuncCalls
import Derived.RangeFuncLeaves
import Derived.Shelf.Abstract
import Derived.Shelf.RegionOpen
import Derived.OwnWalkIn
import Derived.TacticsInMore
import Derived.LoopNIn
import Derived.LoopIn
import Derived.Lib.IndexLaws
import Derived.Lib.Bytealg
import Derived.Lib.SplitLaws
import Derived.Lib.CountLaws
import Derived.Lib.IndexBytes
import Derived.Lib.AtoiErrMem
import Derived.Lib.SmallJoins
import Derived.Lib.AtoiAllCases
import Derived.Test.YtndojpcjhkncgaaGreatDoorMReads1

section
namespace Go.Proofs
open Go.Shelf
def Tryz.lays169_ren : Go.Shelf.Ren := ⟨fun | 169 => 63 | n => n, fun | 70 => 98 | 9 => 9 | 0 => 0 | 72 => 100 | 37 => 53 | 127 => 118 | 3 => 3 | 5 => 5 | n => n, fun | n => n⟩
theorem Tryz.lays169 : Go.Proofs.Lays.n169 Tryz.prog Tryz.lays169_ren := {
  mixed := by kernel_rfl
  f169 := Tryz.func63.trans (congrArg some (by kernel_rfl))
  t0 := Tryz.underlying0
  a0 := Tryz.isAgg0
  z0 := Tryz.sizeOf0
  v0 := Tryz.zeroValue0
  t3 := Tryz.underlying3
  a3 := Tryz.isAgg3
  z3 := Tryz.sizeOf3
  v3 := Tryz.zeroValue3
  t9 := Tryz.underlying9
  a9 := Tryz.isAgg9
  z9 := Tryz.sizeOf9
  v9 := Tryz.zeroValue9
  t37 := Tryz.underlying53
  a37 := Tryz.isAgg53
  z37 := Tryz.sizeOf53
  v37 := Tryz.zeroValue53
  t70 := Tryz.underlying98
  a70 := Tryz.isAgg98
  z70 := Tryz.sizeOf98
  v70 := Tryz.zeroValue98
  t72 := Tryz.underlying100
  a72 := Tryz.isAgg100
  z72 := Tryz.sizeOf100
  v72 := Tryz.zeroValue100
  t127 := Tryz.underlying118
  a127 := Tryz.isAgg118
  z127 := Tryz.sizeOf118
  v127 := Tryz.zeroValue118 }
theorem Tryz.Builder_Extra_169 : Builder.Extra Tryz.prog Tryz.lays169_ren := {
  sizeBuilder := by kernel_rfl
  liesBuilder := by kernel_rfl
  t5 := Tryz.underlying5
  a5 := Tryz.isAgg5
  z5 := Tryz.sizeOf5
  v5 := Tryz.zeroValue5
  infoByte := by kernel_rfl
  cellsByte := by kernel_rfl
  sizeByte := by kernel_rfl
  neB5 := by decide }
def Tryz.lays160_ren : Go.Shelf.Ren := ⟨fun | 160 => 75 | 232 => 86 | 231 => 85 | 227 => 87 | 234 => 89 | 233 => 88 | 236 => 91 | 235 => 90 | 228 => 109 | 271 => 112 | 151 => 111 | 197 => 110 | 120 => 134 | 152 => 133 | 260 => 132 | 137 => 93 | 119 => 145 | 224 => 137 | 225 => 136 | 217 => 113 | 266 => 135 | n => n, fun | 9 => 9 | 4 => 4 | 3 => 3 | 5 => 5 | 117 => 132 | 116 => 131 | 0 => 0 | 124 => 135 | 21 => 21 | 105 => 151 | 46 => 114 | 119 => 178 | 139 => 181 | 138 => 180 | n => n, fun | 3 => 4 | 4 => 5 | n => n⟩
theorem Tryz.lays160 : Go.Proofs.Lays.n160 Tryz.prog Tryz.lays160_ren := {
  mixed := by kernel_rfl
  f119 := Tryz.func145.trans (congrArg some (by kernel_rfl))
  f120 := Tryz.func134.trans (congrArg some (by kernel_rfl))
  f137 := Tryz.func93.trans (congrArg some (by kernel_rfl))
  f151 := Tryz.func111.trans (congrArg some (by kernel_rfl))
  f152 := Tryz.func133.trans (congrArg some (by kernel_rfl))
  f160 := Tryz.func75.trans (congrArg some (by kernel_rfl))
  f197 := Tryz.func110.trans (congrArg some (by kernel_rfl))
  f217 := Tryz.func113.trans (congrArg some (by kernel_rfl))
  f224 := Tryz.func137.trans (congrArg some (by kernel_rfl))
  f225 := Tryz.func136.trans (congrArg some (by kernel_rfl))
  f227 := Tryz.func87.trans (congrArg some (by kernel_rfl))
  f228 := Tryz.func109.trans (congrArg some (by kernel_rfl))
  f231 := Tryz.func85.trans (congrArg some (by kernel_rfl))
  f232 := Tryz.func86.trans (congrArg some (by kernel_rfl))
  f233 := Tryz.func88.trans (congrArg some (by kernel_rfl))
  f234 := Tryz.func89.trans (congrArg some (by kernel_rfl))
  f235 := Tryz.func90.trans (congrArg some (by kernel_rfl))
  f236 := Tryz.func91.trans (congrArg some (by kernel_rfl))
  f260 := Tryz.func132.trans (congrArg some (by kernel_rfl))
  f266 := Tryz.func135.trans (congrArg some (by kernel_rfl))
  f271 := Tryz.func112.trans (congrArg some (by kernel_rfl))
  t0 := Tryz.underlying0
  a0 := Tryz.isAgg0
  z0 := Tryz.sizeOf0
  v0 := Tryz.zeroValue0
  t3 := Tryz.underlying3
  a3 := Tryz.isAgg3
  z3 := Tryz.sizeOf3
  v3 := Tryz.zeroValue3
  t4 := Tryz.underlying4
  a4 := Tryz.isAgg4
  z4 := Tryz.sizeOf4
  v4 := Tryz.zeroValue4
  t5 := Tryz.underlying5
  a5 := Tryz.isAgg5
  z5 := Tryz.sizeOf5
  v5 := Tryz.zeroValue5
  t9 := Tryz.underlying9
  a9 := Tryz.isAgg9
  z9 := Tryz.sizeOf9
  v9 := Tryz.zeroValue9
  t21 := Tryz.underlying21
  a21 := Tryz.isAgg21
  z21 := Tryz.sizeOf21
  v21 := Tryz.zeroValue21
  t46 := Tryz.underlying114
  a46 := Tryz.isAgg114
  z46 := Tryz.sizeOf114
  v46 := Tryz.zeroValue114
  t105 := Tryz.underlying151
  a105 := Tryz.isAgg151
  z105 := Tryz.sizeOf151
  v105 := Tryz.zeroValue151
  t116 := Tryz.underlying131
  a116 := Tryz.isAgg131
  z116 := Tryz.sizeOf131
  t117 := Tryz.underlying132
  a117 := Tryz.isAgg132
  z117 := Tryz.sizeOf132
  v117 := Tryz.zeroValue132
  t119 := Tryz.underlying178
  a119 := Tryz.isAgg178
  z119 := Tryz.sizeOf178
  t124 := Tryz.underlying135
  a124 := Tryz.isAgg135
  z124 := Tryz.sizeOf135
  v124 := Tryz.zeroValue135
  t138 := Tryz.underlying180
  a138 := Tryz.isAgg180
  z138 := Tryz.sizeOf180
  v138 := Tryz.zeroValue180
  t139 := Tryz.underlying181
  a139 := Tryz.isAgg181
  z139 := Tryz.sizeOf181
  v139 := Tryz.zeroValue181
  g3 := by kernel_rfl
  g4 := by kernel_rfl }
def Tryz.lays137_ren : Go.Shelf.Ren := ⟨fun | 137 => 93 | 217 => 113 | 266 => 135 | n => n, fun | 9 => 9 | 5 => 5 | 3 => 3 | n => n, fun | n => n⟩
theorem Tryz.lays137 : Go.Proofs.Lays.n137 Tryz.prog Tryz.lays137_ren := {
  mixed := by kernel_rfl
  f137 := Tryz.func93.trans (congrArg some (by kernel_rfl))
  f217 := Tryz.func113.trans (congrArg some (by kernel_rfl))
  f266 := Tryz.func135.trans (congrArg some (by kernel_rfl))
  t3 := Tryz.underlying3
  a3 := Tryz.isAgg3
  z3 := Tryz.sizeOf3
  v3 := Tryz.zeroValue3
  t5 := Tryz.underlying5
  a5 := Tryz.isAgg5
  z5 := Tryz.sizeOf5
  v5 := Tryz.zeroValue5
  t9 := Tryz.underlying9
  a9 := Tryz.isAgg9
  z9 := Tryz.sizeOf9
  v9 := Tryz.zeroValue9 }
open Go.RowKit in
theorem Tryz.strings_IndexByte (s : ByteArray) (c : Int) (w : World) :
    Calls Tryz.prog 93 #[.string s, .int .u8 c] w fun e w' => e = .returned (.int .i64 (Lib.indexByte s.data.toList c.toNat.toUInt8)) ∧ w' = w := Any.strings_IndexByte Tryz.lays137 s c w
open Go.RowKit in
theorem Tryz.Builder_String_any_k (B b : Nat) (l : List UInt8) (w : World) (h : Lib.IsBuilderF 100 5 B b (Lib.byteCells l) w) (hBw : B ≤ w.heap.size) :
    Calls Tryz.prog 63 #[.pointer (some ⟨b, 0, none⟩)] w fun e w' => e = .returned (.string ⟨l.toArray⟩) ∧ (Lib.IsBuilderF 100 5 B b (Lib.byteCells l) w' ∧ Below B w w' ∧ Lib.OthersKept 5 (some b) w w') := Any.Builder_String_any_k Tryz.lays169 Tryz.Builder_Extra_169 B b l w h hBw
def Tryz.laysM171_ren : Go.Shelf.Ren := ⟨fun | 171 => 62 | 243 => 73 | 246 => 82 | 283 => 100 | 284 => 101 | 285 => 102 | 286 => 103 | 129 => 124 | 317 => 123 | 318 => 125 | 319 => 126 | 320 => 127 | 337 => 142 | 338 => 143 | n => n, fun | 3 => 3 | 9 => 9 | 2 => 2 | 4 => 4 | 171 => 140 | 0 => 0 | 53 => 127 | 37 => 53 | 5 => 5 | 173 => 143 | 212 => 163 | 51 => 119 | 20 => 20 | 213 => 164 | 46 => 114 | 232 => 188 | 233 => 189 | n => n, fun | 17 => 0 | 18 => 6 | 19 => 7 | n => n⟩
theorem Tryz.laysM171 : Go.Proofs.LaysM.n171 Tryz.prog Tryz.laysM171_ren := {
  mixed := by kernel_rfl
  f129 := Tryz.func124.trans (congrArg some (by kernel_rfl))
  f171 := Tryz.func62.trans (congrArg some (by kernel_rfl))
  f243 := Tryz.func73.trans (congrArg some (by kernel_rfl))
  f246 := Tryz.func82.trans (congrArg some (by kernel_rfl))
  f283 := Tryz.func100.trans (congrArg some (by kernel_rfl))
  f284 := Tryz.func101.trans (congrArg some (by kernel_rfl))
  f285 := Tryz.func102.trans (congrArg some (by kernel_rfl))
  f286 := Tryz.func103.trans (congrArg some (by kernel_rfl))
  f317 := Tryz.func123.trans (congrArg some (by kernel_rfl))
  f318 := Tryz.func125.trans (congrArg some (by kernel_rfl))
  f319 := Tryz.func126.trans (congrArg some (by kernel_rfl))
  f320 := Tryz.func127.trans (congrArg some (by kernel_rfl))
  f337 := Tryz.func142.trans (congrArg some (by kernel_rfl))
  f338 := Tryz.func143.trans (congrArg some (by kernel_rfl))
  t0 := Tryz.underlying0
  a0 := Tryz.isAgg0
  z0 := Tryz.sizeOf0
  v0 := Tryz.zeroValue0
  t2 := Tryz.underlying2
  a2 := Tryz.isAgg2
  z2 := Tryz.sizeOf2
  v2 := Tryz.zeroValue2
  t3 := Tryz.underlying3
  a3 := Tryz.isAgg3
  z3 := Tryz.sizeOf3
  v3 := Tryz.zeroValue3
  t4 := Tryz.underlying4
  a4 := Tryz.isAgg4
  z4 := Tryz.sizeOf4
  v4 := Tryz.zeroValue4
  t5 := Tryz.underlying5
  a5 := Tryz.isAgg5
  z5 := Tryz.sizeOf5
  v5 := Tryz.zeroValue5
  t9 := Tryz.underlying9
  a9 := Tryz.isAgg9
  z9 := Tryz.sizeOf9
  v9 := Tryz.zeroValue9
  t20 := Tryz.underlying20
  a20 := Tryz.isAgg20
  z20 := Tryz.sizeOf20
  v20 := Tryz.zeroValue20
  t37 := Tryz.underlying53
  a37 := Tryz.isAgg53
  z37 := Tryz.sizeOf53
  v37 := Tryz.zeroValue53
  t46 := Tryz.underlying114
  a46 := Tryz.isAgg114
  z46 := Tryz.sizeOf114
  v46 := Tryz.zeroValue114
  t51 := Tryz.underlying119
  a51 := Tryz.isAgg119
  z51 := Tryz.sizeOf119
  v51 := Tryz.zeroValue119
  t53 := Tryz.underlying127
  a53 := Tryz.isAgg127
  z53 := Tryz.sizeOf127
  v53 := Tryz.zeroValue127
  t171 := Tryz.underlying140
  a171 := Tryz.isAgg140
  z171 := Tryz.sizeOf140
  v171 := Tryz.zeroValue140
  t173 := Tryz.underlying143
  a173 := Tryz.isAgg143
  z173 := Tryz.sizeOf143
  v173 := Tryz.zeroValue143
  t212 := Tryz.underlying163
  a212 := Tryz.isAgg163
  z212 := Tryz.sizeOf163
  v212 := Tryz.zeroValue163
  t213 := Tryz.underlying164
  a213 := Tryz.isAgg164
  z213 := Tryz.sizeOf164
  t232 := Tryz.underlying188
  a232 := Tryz.isAgg188
  z232 := Tryz.sizeOf188
  v232 := Tryz.zeroValue188
  t233 := Tryz.underlying189
  a233 := Tryz.isAgg189
  z233 := Tryz.sizeOf189
  v233 := Tryz.zeroValue189
  g17 := by kernel_rfl
  g18 := by kernel_rfl
  g19 := by kernel_rfl
  i0 := by kernel_rfl
  i2 := by kernel_rfl
  i3 := by kernel_rfl
  i4 := by kernel_rfl
  i5 := by kernel_rfl
  i9 := by kernel_rfl
  i20 := by kernel_rfl
  i37 := by kernel_rfl
  i46 := by kernel_rfl
  i51 := by kernel_rfl
  i53 := by kernel_rfl
  i171 := by kernel_rfl
  i173 := by kernel_rfl
  i212 := by kernel_rfl
  i232 := by kernel_rfl
  i233 := by kernel_rfl
  m17 := by kernel_rfl
  m18 := by kernel_rfl
  m19 := by kernel_rfl }
open Go.RowKit Go.Sort Go.Lib in
theorem Tryz.strconv_Itoa (n : Int) (h0 : -9223372036854775808 ≤ n) (h1 : n ≤ 9223372036854775807) (w : World) (htab : Lib.TabIs Tryz.prog w "internal/strconv.uint64pow10" .u64 Lib.pow10Tab) :
    Calls Tryz.prog 62 #[.int .i64 n] w fun e w' => e = .returned (.string ⟨(Lib.itoa n).toArray⟩) ∧ ∃ k os, w' = grow (w.drewN k) os := Any.strconv_Itoa Tryz.laysM171 n h0 h1 w htab
def Tryz.laysC172_ren : Go.Shelf.Ren := ⟨fun | 172 => 80 | 244 => 98 | 245 => 99 | 247 => 118 | 279 => 119 | 280 => 120 | 281 => 121 | 282 => 122 | 287 => 139 | 316 => 140 | 171 => 62 | 205 => 141 | 321 => 147 | 322 => 148 | 243 => 73 | 246 => 82 | 283 => 100 | 284 => 101 | 285 => 102 | 286 => 103 | 129 => 124 | 317 => 123 | 318 => 125 | 319 => 126 | 320 => 127 | 337 => 142 | 338 => 143 | n => n, fun | 9 => 9 | 3 => 3 | 75 => 102 | 76 => 103 | 4 => 4 | 5 => 5 | 167 => 155 | 37 => 53 | 0 => 0 | 85 => 156 | 2 => 2 | 168 => 158 | 53 => 127 | 175 => 171 | 46 => 114 | 210 => 174 | 127 => 118 | 145 => 187 | 143 => 185 | 21 => 21 | 171 => 140 | 173 => 143 | 212 => 163 | 51 => 119 | 20 => 20 | 213 => 164 | 232 => 188 | 233 => 189 | 80 => 106 | n => n, fun | 15 => 2 | 16 => 3 | 17 => 0 | 18 => 6 | 19 => 7 | n => n⟩
theorem Tryz.laysC172 : Go.Proofs.LaysC.n172 Tryz.prog Tryz.laysC172_ren := {
  mixed := by kernel_rfl
  f129 := Tryz.func124.trans (congrArg some (by kernel_rfl))
  f171 := Tryz.func62.trans (congrArg some (by kernel_rfl))
  f172 := Tryz.func80.trans (congrArg some (by kernel_rfl))
  f205 := Tryz.func141.trans (congrArg some (by kernel_rfl))
  f243 := Tryz.func73.trans (congrArg some (by kernel_rfl))
  f244 := Tryz.func98.trans (congrArg some (by kernel_rfl))
  f245 := Tryz.func99.trans (congrArg some (by kernel_rfl))
  f246 := Tryz.func82.trans (congrArg some (by kernel_rfl))
  f247 := Tryz.func118.trans (congrArg some (by kernel_rfl))
  f279 := Tryz.func119.trans (congrArg some (by kernel_rfl))
  f280 := Tryz.func120.trans (congrArg some (by kernel_rfl))
  f281 := Tryz.func121.trans (congrArg some (by kernel_rfl))
  f282 := Tryz.func122.trans (congrArg some (by kernel_rfl))
  f283 := Tryz.func100.trans (congrArg some (by kernel_rfl))
  f284 := Tryz.func101.trans (congrArg some (by kernel_rfl))
  f285 := Tryz.func102.trans (congrArg some (by kernel_rfl))
  f286 := Tryz.func103.trans (congrArg some (by kernel_rfl))
  f287 := Tryz.func139.trans (congrArg some (by kernel_rfl))
  f316 := Tryz.func140.trans (congrArg some (by kernel_rfl))
  f317 := Tryz.func123.trans (congrArg some (by kernel_rfl))
  f318 := Tryz.func125.trans (congrArg some (by kernel_rfl))
  f319 := Tryz.func126.trans (congrArg some (by kernel_rfl))
  f320 := Tryz.func127.trans (congrArg some (by kernel_rfl))
  f321 := Tryz.func147.trans (congrArg some (by kernel_rfl))
  f322 := Tryz.func148.trans (congrArg some (by kernel_rfl))
  f337 := Tryz.func142.trans (congrArg some (by kernel_rfl))
  f338 := Tryz.func143.trans (congrArg some (by kernel_rfl))
  t0 := Tryz.underlying0
  a0 := Tryz.isAgg0
  z0 := Tryz.sizeOf0
  v0 := Tryz.zeroValue0
  t2 := Tryz.underlying2
  a2 := Tryz.isAgg2
  z2 := Tryz.sizeOf2
  v2 := Tryz.zeroValue2
  t3 := Tryz.underlying3
  a3 := Tryz.isAgg3
  z3 := Tryz.sizeOf3
  v3 := Tryz.zeroValue3
  t4 := Tryz.underlying4
  a4 := Tryz.isAgg4
  z4 := Tryz.sizeOf4
  v4 := Tryz.zeroValue4
  t5 := Tryz.underlying5
  a5 := Tryz.isAgg5
  z5 := Tryz.sizeOf5
  v5 := Tryz.zeroValue5
  t9 := Tryz.underlying9
  a9 := Tryz.isAgg9
  z9 := Tryz.sizeOf9
  v9 := Tryz.zeroValue9
  t20 := Tryz.underlying20
  a20 := Tryz.isAgg20
  z20 := Tryz.sizeOf20
  v20 := Tryz.zeroValue20
  t21 := Tryz.underlying21
  a21 := Tryz.isAgg21
  z21 := Tryz.sizeOf21
  v21 := Tryz.zeroValue21
  t37 := Tryz.underlying53
  a37 := Tryz.isAgg53
  z37 := Tryz.sizeOf53
  v37 := Tryz.zeroValue53
  t46 := Tryz.underlying114
  a46 := Tryz.isAgg114
  z46 := Tryz.sizeOf114
  v46 := Tryz.zeroValue114
  t51 := Tryz.underlying119
  a51 := Tryz.isAgg119
  z51 := Tryz.sizeOf119
  v51 := Tryz.zeroValue119
  t53 := Tryz.underlying127
  a53 := Tryz.isAgg127
  z53 := Tryz.sizeOf127
  v53 := Tryz.zeroValue127
  t75 := Tryz.underlying102
  a75 := Tryz.isAgg102
  z75 := Tryz.sizeOf102
  v75 := Tryz.zeroValue102
  t76 := Tryz.underlying103
  a76 := Tryz.isAgg103
  z76 := Tryz.sizeOf103
  v76 := Tryz.zeroValue103
  t85 := Tryz.underlying156
  a85 := Tryz.isAgg156
  z85 := Tryz.sizeOf156
  v85 := Tryz.zeroValue156
  t127 := Tryz.underlying118
  a127 := Tryz.isAgg118
  z127 := Tryz.sizeOf118
  v127 := Tryz.zeroValue118
  t143 := Tryz.underlying185
  a143 := Tryz.isAgg185
  z143 := Tryz.sizeOf185
  v143 := Tryz.zeroValue185
  t145 := Tryz.underlying187
  a145 := Tryz.isAgg187
  z145 := Tryz.sizeOf187
  v145 := Tryz.zeroValue187
  t167 := Tryz.underlying155
  a167 := Tryz.isAgg155
  z167 := Tryz.sizeOf155
  v167 := Tryz.zeroValue155
  t168 := Tryz.underlying158
  a168 := Tryz.isAgg158
  z168 := Tryz.sizeOf158
  v168 := Tryz.zeroValue158
  t171 := Tryz.underlying140
  a171 := Tryz.isAgg140
  z171 := Tryz.sizeOf140
  v171 := Tryz.zeroValue140
  t173 := Tryz.underlying143
  a173 := Tryz.isAgg143
  z173 := Tryz.sizeOf143
  v173 := Tryz.zeroValue143
  t175 := Tryz.underlying171
  a175 := Tryz.isAgg171
  z175 := Tryz.sizeOf171
  v175 := Tryz.zeroValue171
  t210 := Tryz.underlying174
  a210 := Tryz.isAgg174
  z210 := Tryz.sizeOf174
  v210 := Tryz.zeroValue174
  t212 := Tryz.underlying163
  a212 := Tryz.isAgg163
  z212 := Tryz.sizeOf163
  v212 := Tryz.zeroValue163
  t213 := Tryz.underlying164
  a213 := Tryz.isAgg164
  z213 := Tryz.sizeOf164
  t232 := Tryz.underlying188
  a232 := Tryz.isAgg188
  z232 := Tryz.sizeOf188
  v232 := Tryz.zeroValue188
  t233 := Tryz.underlying189
  a233 := Tryz.isAgg189
  z233 := Tryz.sizeOf189
  v233 := Tryz.zeroValue189
  g15 := by kernel_rfl
  g16 := by kernel_rfl
  g17 := by kernel_rfl
  g18 := by kernel_rfl
  g19 := by kernel_rfl
  t80 := Tryz.underlying106
  a80 := Tryz.isAgg106
  z80 := Tryz.sizeOf106
  v80 := Tryz.zeroValue106
  i0 := by kernel_rfl
  i2 := by kernel_rfl
  i3 := by kernel_rfl
  i4 := by kernel_rfl
  i5 := by kernel_rfl
  i9 := by kernel_rfl
  i20 := by kernel_rfl
  i21 := by kernel_rfl
  i37 := by kernel_rfl
  i46 := by kernel_rfl
  i51 := by kernel_rfl
  i53 := by kernel_rfl
  i75 := by kernel_rfl
  i76 := by kernel_rfl
  i80 := by kernel_rfl
  i85 := by kernel_rfl
  i127 := by kernel_rfl
  i143 := by kernel_rfl
  i145 := by kernel_rfl
  i167 := by kernel_rfl
  i168 := by kernel_rfl
  i171 := by kernel_rfl
  i173 := by kernel_rfl
  i175 := by kernel_rfl
  i210 := by kernel_rfl
  i212 := by kernel_rfl
  i232 := by kernel_rfl
  i233 := by kernel_rfl
  m15 := by kernel_rfl
  m16 := by kernel_rfl
  m17 := by kernel_rfl
  m18 := by kernel_rfl
  m19 := by kernel_rfl
  c0 := by kernel_rfl
  c2 := by kernel_rfl
  c3 := by kernel_rfl
  c4 := by kernel_rfl
  c5 := by kernel_rfl
  c9 := by kernel_rfl
  c20 := by kernel_rfl
  c21 := by kernel_rfl
  c37 := by kernel_rfl
  c46 := by kernel_rfl
  c51 := by kernel_rfl
  c53 := by kernel_rfl
  c75 := by kernel_rfl
  c76 := by kernel_rfl
  c80 := by kernel_rfl
  c85 := by kernel_rfl
  c127 := by kernel_rfl
  c143 := by kernel_rfl
  c145 := by kernel_rfl
  c167 := by kernel_rfl
  c168 := by kernel_rfl
  c171 := by kernel_rfl
  c173 := by kernel_rfl
  c175 := by kernel_rfl
  c210 := by kernel_rfl
  c212 := by kernel_rfl
  c213 := by kernel_rfl
  c232 := by kernel_rfl
  c233 := by kernel_rfl }
open Go.RowKit in
theorem Tryz.strconv_Atoi_ok (s : ByteArray) (hmax : s.size ≤ 9223372036854775806) (v : Int) (h : Lib.atoiAll s.data.toList = .ok v) (w : World) :
    Calls Tryz.prog 80 #[.string s] w fun e w' => e = .returned (.tuple #[.int .i64 v, .nilIface]) ∧ (w' = w ∨ ∃ t, w' = Lib.bytesWorld w 5 t) := Any.strconv_Atoi_ok Tryz.laysC172 s hmax v h w
open Go.RowKit in
theorem Tryz.strconv_Atoi_range (s : ByteArray) (hlim : s.size ≤ 281474976710656) (h : Lib.atoiAll s.data.toList = .range) (ev : Value) (w : World) (hv : w.cell? ⟨3, 0, none⟩ = some ev) (hev : ev = .nilIface ∨ ∃ te pe, ev = .iface te pe) :
    Calls Tryz.prog 80 #[.string s] w fun e w' => ∃ N, e = .returned (.tuple #[.int .i64 (Lib.atoiSat s.data.toList), .iface 158 (.pointer (some ⟨N, 0, none⟩))]) ∧ w.heap.size ≤ N ∧ w'.heap[N]? = some (.cells #[.string ⟨#[65, 116, 111, 105]⟩, .string s, ev] 174 (0, 0)) ∧ Below w.heap.size w w' := Any.strconv_Atoi_range Tryz.laysC172 s hlim h ev w hv hev
def Tryz.lays102_ren : Go.Shelf.Ren := ⟨fun | 102 => 78 | 209 => 94 | 207 => 114 | n => n, fun | 9 => 9 | 4 => 4 | 3 => 3 | n => n, fun | n => n⟩
theorem Tryz.lays102 : Go.Proofs.Lays.n102 Tryz.prog Tryz.lays102_ren := {
  mixed := by kernel_rfl
  f102 := Tryz.func78.trans (congrArg some (by kernel_rfl))
  f207 := Tryz.func114.trans (congrArg some (by kernel_rfl))
  f209 := Tryz.func94.trans (congrArg some (by kernel_rfl))
  t3 := Tryz.underlying3
  a3 := Tryz.isAgg3
  z3 := Tryz.sizeOf3
  v3 := Tryz.zeroValue3
  t4 := Tryz.underlying4
  a4 := Tryz.isAgg4
  z4 := Tryz.sizeOf4
  v4 := Tryz.zeroValue4
  t9 := Tryz.underlying9
  a9 := Tryz.isAgg9
  z9 := Tryz.sizeOf9
  v9 := Tryz.zeroValue9 }
open Go.RowKit Go.Lib in
theorem Tryz.strings_TrimSuffix (s p : ByteArray) (w : World) (hs : s.size ≤ 9223372036854775807) :
    Calls Tryz.prog 78 #[.string s, .string p] w fun e w' => e = .returned (.string ⟨(Lib.trimSuffix s.data.toList p.data.toList).toArray⟩) ∧ w' = w := Any.strings_TrimSuffix Tryz.lays102 s p w hs
def Tryz.lays146_ren : Go.Shelf.Ren := ⟨fun | 146 => 67 | 221 => 79 | 268 => 95 | 138 => 96 | 143 => 97 | 195 => 115 | 197 => 110 | 218 => 116 | 219 => 117 | 260 => 132 | 217 => 113 | 225 => 136 | 224 => 137 | 267 => 138 | 266 => 135 | 314 => 146 | n => n, fun | 9 => 9 | 31 => 111 | 3 => 3 | 4 => 4 | 0 => 0 | 105 => 151 | 21 => 21 | 5 => 5 | 46 => 114 | 119 => 178 | 139 => 181 | 138 => 180 | 146 => 166 | 51 => 119 | n => n, fun | 1 => 1 | 3 => 4 | 4 => 5 | n => n⟩
theorem Tryz.lays146 : Go.Proofs.Lays.n146 Tryz.prog Tryz.lays146_ren := {
  mixed := by kernel_rfl
  f138 := Tryz.func96.trans (congrArg some (by kernel_rfl))
  f143 := Tryz.func97.trans (congrArg some (by kernel_rfl))
  f146 := Tryz.func67.trans (congrArg some (by kernel_rfl))
  f195 := Tryz.func115.trans (congrArg some (by kernel_rfl))
  f197 := Tryz.func110.trans (congrArg some (by kernel_rfl))
  f217 := Tryz.func113.trans (congrArg some (by kernel_rfl))
  f218 := Tryz.func116.trans (congrArg some (by kernel_rfl))
  f219 := Tryz.func117.trans (congrArg some (by kernel_rfl))
  f221 := Tryz.func79.trans (congrArg some (by kernel_rfl))
  f224 := Tryz.func137.trans (congrArg some (by kernel_rfl))
  f225 := Tryz.func136.trans (congrArg some (by kernel_rfl))
  f260 := Tryz.func132.trans (congrArg some (by kernel_rfl))
  f266 := Tryz.func135.trans (congrArg some (by kernel_rfl))
  f267 := Tryz.func138.trans (congrArg some (by kernel_rfl))
  f268 := Tryz.func95.trans (congrArg some (by kernel_rfl))
  f314 := Tryz.func146.trans (congrArg some (by kernel_rfl))
  t0 := Tryz.underlying0
  a0 := Tryz.isAgg0
  z0 := Tryz.sizeOf0
  v0 := Tryz.zeroValue0
  t3 := Tryz.underlying3
  a3 := Tryz.isAgg3
  z3 := Tryz.sizeOf3
  v3 := Tryz.zeroValue3
  t4 := Tryz.underlying4
  a4 := Tryz.isAgg4
  z4 := Tryz.sizeOf4
  v4 := Tryz.zeroValue4
  t5 := Tryz.underlying5
  a5 := Tryz.isAgg5
  z5 := Tryz.sizeOf5
  v5 := Tryz.zeroValue5
  t9 := Tryz.underlying9
  a9 := Tryz.isAgg9
  z9 := Tryz.sizeOf9
  v9 := Tryz.zeroValue9
  t21 := Tryz.underlying21
  a21 := Tryz.isAgg21
  z21 := Tryz.sizeOf21
  v21 := Tryz.zeroValue21
  t31 := Tryz.underlying111
  a31 := Tryz.isAgg111
  z31 := Tryz.sizeOf111
  v31 := Tryz.zeroValue111
  t46 := Tryz.underlying114
  a46 := Tryz.isAgg114
  z46 := Tryz.sizeOf114
  v46 := Tryz.zeroValue114
  t51 := Tryz.underlying119
  a51 := Tryz.isAgg119
  z51 := Tryz.sizeOf119
  v51 := Tryz.zeroValue119
  t105 := Tryz.underlying151
  a105 := Tryz.isAgg151
  z105 := Tryz.sizeOf151
  v105 := Tryz.zeroValue151
  t119 := Tryz.underlying178
  a119 := Tryz.isAgg178
  z119 := Tryz.sizeOf178
  t138 := Tryz.underlying180
  a138 := Tryz.isAgg180
  z138 := Tryz.sizeOf180
  v138 := Tryz.zeroValue180
  t139 := Tryz.underlying181
  a139 := Tryz.isAgg181
  z139 := Tryz.sizeOf181
  v139 := Tryz.zeroValue181
  t146 := Tryz.underlying166
  a146 := Tryz.isAgg166
  z146 := Tryz.sizeOf166
  v146 := Tryz.zeroValue166
  g1 := by kernel_rfl
  g3 := by kernel_rfl
  g4 := by kernel_rfl }
open Go.RowKit Go.Lib in
theorem Tryz.strings_Split (s sep : ByteArray) (m : Int) (w : World) (hs : s.size < 4294967281) (hm : w.cell? ⟨1, 0, none⟩ = some (.int .i64 m)) (h1 : 1 ≤ sep.size) :
    Calls Tryz.prog 67 #[.string s, .string sep] w fun e w' =>
      e = .returned (.slice (some ⟨w.heap.size, 0, none⟩) (Lib.countB s sep + 1) (Lib.countB s sep + 1)) ∧ w' = w.alloc (.cells ((Lib.splitB sep 0 (Lib.countB s sep) s).map Value.string).toArray 9) := Any.strings_Split Tryz.lays146 (by kernel_rfl) s sep m w hs hm h1
def Tryz.lays105_ren : Go.Shelf.Ren := ⟨fun | 105 => 84 | 212 => 105 | 99 => 106 | 165 => 107 | 166 => 60 | 170 => 108 | 169 => 63 | 263 => 128 | 264 => 129 | 206 => 130 | 240 => 72 | 241 => 131 | 276 => 81 | 277 => 144 | n => n, fun | 9 => 9 | 3 => 3 | 4 => 4 | 20 => 20 | 0 => 0 | 46 => 114 | 109 => 145 | 5 => 5 | 72 => 100 | 76 => 103 | 51 => 119 | 146 => 166 | 53 => 127 | 148 => 168 | 70 => 98 | 37 => 53 | 75 => 102 | 127 => 118 | 164 => 123 | 80 => 106 | n => n, fun | n => n⟩
theorem Tryz.lays105 : Go.Proofs.Lays.n105 Tryz.prog Tryz.lays105_ren := {
  mixed := by kernel_rfl
  f99 := Tryz.func106.trans (congrArg some (by kernel_rfl))
  f105 := Tryz.func84.trans (congrArg some (by kernel_rfl))
  f165 := Tryz.func107.trans (congrArg some (by kernel_rfl))
  f166 := Tryz.func60.trans (congrArg some (by kernel_rfl))
  f169 := Tryz.func63.trans (congrArg some (by kernel_rfl))
  f170 := Tryz.func108.trans (congrArg some (by kernel_rfl))
  f206 := Tryz.func130.trans (congrArg some (by kernel_rfl))
  f212 := Tryz.func105.trans (congrArg some (by kernel_rfl))
  f240 := Tryz.func72.trans (congrArg some (by kernel_rfl))
  f241 := Tryz.func131.trans (congrArg some (by kernel_rfl))
  f263 := Tryz.func128.trans (congrArg some (by kernel_rfl))
  f264 := Tryz.func129.trans (congrArg some (by kernel_rfl))
  f276 := Tryz.func81.trans (congrArg some (by kernel_rfl))
  f277 := Tryz.func144.trans (congrArg some (by kernel_rfl))
  t0 := Tryz.underlying0
  a0 := Tryz.isAgg0
  z0 := Tryz.sizeOf0
  v0 := Tryz.zeroValue0
  t3 := Tryz.underlying3
  a3 := Tryz.isAgg3
  z3 := Tryz.sizeOf3
  v3 := Tryz.zeroValue3
  t4 := Tryz.underlying4
  a4 := Tryz.isAgg4
  z4 := Tryz.sizeOf4
  v4 := Tryz.zeroValue4
  t5 := Tryz.underlying5
  a5 := Tryz.isAgg5
  z5 := Tryz.sizeOf5
  v5 := Tryz.zeroValue5
  t9 := Tryz.underlying9
  a9 := Tryz.isAgg9
  z9 := Tryz.sizeOf9
  v9 := Tryz.zeroValue9
  t20 := Tryz.underlying20
  a20 := Tryz.isAgg20
  z20 := Tryz.sizeOf20
  v20 := Tryz.zeroValue20
  t37 := Tryz.underlying53
  a37 := Tryz.isAgg53
  z37 := Tryz.sizeOf53
  v37 := Tryz.zeroValue53
  t46 := Tryz.underlying114
  a46 := Tryz.isAgg114
  z46 := Tryz.sizeOf114
  v46 := Tryz.zeroValue114
  t51 := Tryz.underlying119
  a51 := Tryz.isAgg119
  z51 := Tryz.sizeOf119
  v51 := Tryz.zeroValue119
  t53 := Tryz.underlying127
  a53 := Tryz.isAgg127
  z53 := Tryz.sizeOf127
  v53 := Tryz.zeroValue127
  t70 := Tryz.underlying98
  a70 := Tryz.isAgg98
  z70 := Tryz.sizeOf98
  v70 := Tryz.zeroValue98
  t72 := Tryz.underlying100
  a72 := Tryz.isAgg100
  z72 := Tryz.sizeOf100
  v72 := Tryz.zeroValue100
  t75 := Tryz.underlying102
  a75 := Tryz.isAgg102
  z75 := Tryz.sizeOf102
  v75 := Tryz.zeroValue102
  t76 := Tryz.underlying103
  a76 := Tryz.isAgg103
  z76 := Tryz.sizeOf103
  v76 := Tryz.zeroValue103
  t109 := Tryz.underlying145
  a109 := Tryz.isAgg145
  z109 := Tryz.sizeOf145
  v109 := Tryz.zeroValue145
  t127 := Tryz.underlying118
  a127 := Tryz.isAgg118
  z127 := Tryz.sizeOf118
  v127 := Tryz.zeroValue118
  t146 := Tryz.underlying166
  a146 := Tryz.isAgg166
  z146 := Tryz.sizeOf166
  v146 := Tryz.zeroValue166
  t148 := Tryz.underlying168
  a148 := Tryz.isAgg168
  z148 := Tryz.sizeOf168
  v148 := Tryz.zeroValue168
  t164 := Tryz.underlying123
  a164 := Tryz.isAgg123
  z164 := Tryz.sizeOf123
  v164 := Tryz.zeroValue123 }
theorem Tryz.Builder_Extra_105 : Builder.Extra Tryz.prog Tryz.lays105_ren := {
  sizeBuilder := by kernel_rfl
  liesBuilder := by kernel_rfl
  t5 := Tryz.underlying5
  a5 := Tryz.isAgg5
  z5 := Tryz.sizeOf5
  v5 := Tryz.zeroValue5
  infoByte := by kernel_rfl
  cellsByte := by kernel_rfl
  sizeByte := by kernel_rfl
  neB5 := by decide }
open Go.RowKit Go.Lib in
theorem Tryz.strings_Repeat (s : ByteArray) (c : Nat) (w : World) (hc : c ≤ 9223372036854775807) (hlen : s.size * c ≤ 140737488355328) :
    Calls Tryz.prog 84 #[.string s, .int .i64 c] w fun e w' => e = .returned (.string ⟨(Lib.repeatL s.data.toList c).toArray⟩) ∧ Below w.heap.size w w' := Any.strings_Repeat Tryz.lays105 Tryz.Builder_Extra_105 s c w hc hlen
end Go.Proofs
end

section
namespace Go.Proofs.YtndojpcjhkncgaaGreatDoor.Q
open Go Go.RowKit Go.Proofs.YtndojpcjhkncgaaGreatDoorW.PrintWords
set_option linter.unusedVariables false
set_option linter.unusedSimpArgs false
theorem tz_16 (w : World) (hG : GG w) : Calls Tryz.prog 143 #[.int .u64 16] w fun e w' => e = .returned (.int .i64 4) ∧ w' = w := by
  have hc := hG.low.cell named_low 15 (by decide)
  clear hG
  replace hc : w.cell? ⟨7, 15, none⟩ = some (.int .u8 4) := hc
  have key : IntKind.u64.wrap (bits BinOp.and IntKind.u64 16 (IntKind.u64.wrap (-16)) * 285870213051353865) / 288230376151711744 = 15 := by kernel_rfl
  go_enter Tryz.func143, Tryz.ntmps143
  go_wp2
  go_ret
  exact ⟨rfl, rfl⟩
theorem tzs_16 (w : World) (hG : GG w) : Calls Tryz.prog 127 #[.int .u64 16] w fun e w' => e = .returned (.int .i64 4) ∧ w' = w := by
  have h := tz_16 w hG
  clear hG
  go_enter Tryz.func127, Tryz.ntmps127
  go_wp2_with (go_at_call 143; refine h.mono ?_; rintro e w' ⟨rfl, rfl⟩)
  go_ret
  exact ⟨rfl, rfl⟩
theorem pow_16 (w : World) : Calls Tryz.prog 126 #[.int .i64 16] w fun e w' => e = .returned (.bool true) ∧ w' = w := by
  have key : (bits BinOp.and IntKind.i64 16 15 == 0) = true := by kernel_rfl
  go_enter Tryz.func126, Tryz.ntmps126
  go_wp2
  go_ret
  exact ⟨rfl, rfl⟩
theorem hexA_nil : Tryz.zeroCells164 = hexA [] := by kernel_rfl
theorem alen_110 : Tryz.prog.arrayLen 164 = 65 := by kernel_rfl
theorem elem_110 : Tryz.prog.elem 164 = 5 := by kernel_rfl
theorem under_110 : Tryz.prog.underlying 164 = some (.array (Tryz.prog.arrayLen 164) (Tryz.prog.elem 164)) := by kernel_rfl
theorem slice_110 (W : World) (b j : Nat) (h1 : 1 ≤ j) (h2 : j ≤ 65) : (Instr.sliceAt 164 (.pointer (some ⟨b, 0, none⟩)) (some (.int .i64 ((j : Int) - 1))) none none).run Tryz.prog W = .ok (.slice (some ⟨b, j - 1, none⟩) (66 - j) (66 - j)) W := by
  have hs : (sizeOf 5).run Tryz.prog W = .ok 1 W := by kernel_rfl
  have h := run_sliceAt_array_l (P := Tryz.prog) W 164 ⟨b, 0, none⟩ under_110 .i64 ((j : Int) - 1) (by omega) (by rw [alen_110]; omega)
  rw [h, elem_110, hs, alen_110]
  have e1 : ((j : Int) - 1).toNat = j - 1 := by omega
  have e2 : ¬ 65 = j - 1 := by omega
  simp only [Result.andThen, slicedAt, e1, if_neg e2, Nat.mul_one]
  rw [show 65 - (j - 1) = 66 - j by omega]
  unfold Addr.add
  by_cases e : j - 1 = 0
  · simp [e]
  · simp [e]
theorem conv_hex (w : World) (l : List UInt8) (h : l.length ≤ 65) : (convert 53 9 (.slice (some ⟨w.heap.size, 65 - l.length, none⟩) l.length l.length)).run Tryz.prog (w.alloc (.cells (hexA l) 164)) = .ok (.string ⟨l.toArray⟩) (w.alloc (.cells (hexA l) 164)) := by
  have hc := run_convert_bytes_arg (P := Tryz.prog) (w.alloc (.cells (hexA l) 164)) 53 5 Tryz.underlying53 Tryz.underlying5 w.heap.size (65 - l.length) l.length l.length (l.map fun b => (b.toNat : Int)) (by simp) (fun i hi => by
    exact (blk_cell (heap_alloc_new w (.cells (hexA l) 164)) (65 - l.length + i)).trans (hexA_cell l i h hi)) 9 Tryz.underlying9
  rw [hc, Lib.Lz.strOfNums_map]
set_option maxRecDepth 100000 in
theorem bits_16 (u : Nat) (hu : u < 4294967296) (w : World) (hG : GG w) :
    Calls Tryz.prog 103 #[.slice none 0 0, .int .u64 u, .int .i64 16, .bool false, .bool false] w fun e w' => e = .returned (.tuple #[.slice none 0 0, .string ⟨(hexL u).toArray⟩]) ∧ Below w.heap.size w w' := by
  have hz : GG (w.alloc (.cells Tryz.zeroCells164 164)) := hG.below ((Below.refl _ _).alloc (Nat.le_refl _) _)
  clear hG
  have hlen := hexL_length 7 u (by omega)
  go_enter Tryz.func103, Tryz.ntmps103
  go_wp2_with (first | (go_at_call 126; refine (pow_16 _).mono ?_; rintro e w' ⟨rfl, rfl⟩) | (go_at_call 127; refine (tzs_16 _ hz).mono ?_; rintro e w' ⟨rfl, rfl⟩))
  go_loopw [1, 13] (fun x y wr => ∃ (v j : Nat) (l : List UInt8), x = .int .u64 v ∧ y = .int .i64 j ∧ j + l.length = 65 ∧ v < 4294967296 ∧ Hid (hexL u = hexL v ++ l) ∧ wr = w.alloc (.cells (hexA l) 164)) (fun x _ _ => (intOf x).toNat)
  case atStart => exact ⟨u, 65, [], rfl, rfl, rfl, hu, by exact (by simp : hexL u = hexL u ++ []), by rw [hexA_nil]⟩
  case round =>
    obtain ⟨v, j, l, rfl, rfl, hj, hv, hl, rfl⟩ := hrel
    have hll : l.length ≤ 7 := by
      have h1 := congrArg List.length hl.out
      have h2 := hexL_length 7 v (by omega)
      rw [List.length_append] at h1
      omega
    have hlt : j - 1 < (hexA l).size := by rw [hexA_size l (by omega)]; omega
    have hb := heap_alloc_new w (.cells (hexA l) 164)
    have hc : (w.alloc (.cells (hexA l) 164)).cell? ⟨w.heap.size, j - 1, none⟩ = some (hexA l)[j - 1] := (blk_cell hb (j - 1)).trans (Array.getElem?_eq_getElem hlt)
    obtain ⟨x, hx⟩ : ∃ x, (hexA l)[j - 1] = x := ⟨_, rfl⟩
    rw [hx] at hc
    clear hx hlt
    have hf := blk_frozen hb (j - 1)
    clear hb
    have ha := and_15 v hv
    have hj1 : (j : Int) ≤ 65 := by omega
    have hj0 : (1 : Int) ≤ (j : Int) := by omega
    clear hlen
    by_cases h16 : 16 ≤ v
    · have hd := digs_at (v % 16) (by omega)
      have hset := hexA_set l j (dig (v % 16)) hj (by omega)
      have HJ := Lib.hid hj
      have HL := Lib.hid hll
      clear hj hll
      go_wp2
      have hj := HJ.out
      refine ⟨⟨v / 16, j - 1, dig (v % 16) :: l, by simp, ?_, by simp; omega, by omega, hexL_step u v l hl.out h16, rfl⟩, by simp [intOf]; omega⟩
      rw [show ((j - 1 : Nat) : Int) = (j : Int) - 1 by omega]
    · have hd := digs_at v (by omega)
      have hset := hexA_set l j (dig v) hj (by omega)
      have hsl := fun W => slice_110 W w.heap.size j (by omega) (by omega)
      have hcv := conv_hex w (dig v :: l) (by simp; omega)
      rw [show 65 - (dig v :: l).length = j - 1 by simp; omega, show (dig v :: l).length = 66 - j by simp; omega] at hcv
      have he := hexL_end u v l hl.out (by omega)
      have HE := Lib.hid he
      have HJ := Lib.hid hj
      have HL := Lib.hid hll
      clear hj hll he hl
      go_wp2
      go_ret2
      exact ⟨congrArg (fun z => Ending.returned (.tuple #[.slice none 0 0, .string ⟨List.toArray z⟩])) HE.out.symm, (Below.refl _ _).alloc (Nat.le_refl _) _⟩
theorem uint_16 (u : Nat) (hu : u < 4294967296) (w : World) (hG : GG w) :
    Calls Tryz.prog 104 #[.int .u64 u, .int .i64 16] w fun e w' => e = .returned (.string ⟨(hexL u).toArray⟩) ∧ Below w.heap.size w w' := by
  have H := Lib.hid (bits_16 u hu w hG)
  clear hG
  go_enter Tryz.func104, Tryz.ntmps104
  go_wp2_with (go_at_call 103; refine H.out.mono ?_; rintro e w' ⟨rfl, hb⟩)
  go_ret
  exact ⟨rfl, hb⟩
theorem FormatUint_16 (u : Nat) (hu : u < 4294967296) (w : World) (hG : GG w) :
    Calls Tryz.prog 83 #[.int .u64 u, .int .i64 16] w fun e w' => e = .returned (.string ⟨(hexL u).toArray⟩) ∧ Below w.heap.size w w' := by
  have H := Lib.hid (uint_16 u hu w hG)
  clear hG
  go_enter Tryz.func83, Tryz.ntmps83
  go_wp2_with (go_at_call 104; refine H.out.mono ?_; rintro e w' ⟨rfl, hb⟩)
  go_ret
  exact ⟨rfl, hb⟩
def hex8 (u : Nat) : List UInt8 := List.replicate (8 - (hexL u).length) 48 ++ hexL u
def bank_hex.f (a0 : Int) : Option ByteArray := if 0 ≤ a0 ∧ a0 < 4294967296 then some ⟨(hex8 a0.toNat).toArray⟩ else none
theorem rep_48 (n : Nat) : Lib.repeatL [48] n = List.replicate n (48 : UInt8) := by
  induction n with
  | zero => rfl
  | succ n ih => rw [Lib.repeatL, ih]; rfl
theorem hex8_eq (u : Nat) (s r : ByteArray) (hs : s = ⟨(hexL u).toArray⟩) (hr : r = ⟨(Lib.repeatL [48] (8 - s.size)).toArray⟩) : r ++ s = ⟨(hex8 u).toArray⟩ := by
  have hz : s.size = (hexL u).length := by rw [hs]; rfl
  rw [hr, hz, hs, rep_48]
  apply ByteArray.ext
  rw [ByteArray.data_append]
  simp [hex8]
theorem bank_hex.go (u : Nat) (hu : u < 4294967296) (w : World) (hG : GG w) :
    Calls Tryz.prog 74 #[.int .u32 u] w fun e w' => e = .returned (.string ⟨(hex8 u).toArray⟩) ∧ Below w.heap.size w w' := by
  obtain ⟨s, hs⟩ : ∃ s : ByteArray, s = ⟨(hexL u).toArray⟩ := ⟨_, rfl⟩
  obtain ⟨r, hr⟩ : ∃ r : ByteArray, r = ⟨(Lib.repeatL [48] (8 - s.size)).toArray⟩ := ⟨_, rfl⟩
  have hl := hexL_length 7 u (by omega)
  have hz : s.size = (hexL u).length := by rw [hs]; rfl
  have hsz : s.size ≤ 8 := by omega
  have hrz : r.size ≤ 8 := by
    rw [hr, rep_48]
    show (List.replicate (8 - s.size) (48 : UInt8)).toArray.size ≤ 8
    simp
  have h := FormatUint_16 u hu w hG
  rw [← hs] at h
  have h2 : ∀ W, Calls Tryz.prog 84 #[.string ⟨#[48]⟩, .int .i64 ((8 - s.size : Nat) : Int)] W fun e w' => e = .returned (.string r) ∧ Below W.heap.size W w' := by
    intro W
    rw [hr]
    exact Tryz.strings_Repeat ⟨#[48]⟩ (8 - s.size) W (by omega) (by show 1 * (8 - s.size) ≤ _; omega)
  have H := Lib.hid h
  have H2 := Lib.hid h2
  have HE := Lib.hid (hex8_eq u s r hs hr)
  clear h h2 hs hr hG hz hl
  go_enter Tryz.func74, Tryz.ntmps74
  go_wp2_with (go_at_call 83; refine H.out.mono ?_; rintro e w' ⟨rfl, hb⟩)
  rw [show (8 : Int) - (s.size : Int) = ((8 - s.size : Nat) : Int) by omega]
  refine (H2.out _).mono ?_
  rintro e w2 ⟨rfl, hb2⟩
  go_wp2_with fail
  go_ret
  exact ⟨by rw [← HE.out]; rfl, below_step hb hb2⟩
theorem bank_hex.calls (a0 : Int) (r : ByteArray) (w : World) (hG : GG w) (h : bank_hex.f a0 = some r) :
    Calls Tryz.prog 74 #[.int .u32 a0] w fun e w' => e = .returned (.string r) ∧ Below w.heap.size w w' := by
  unfold bank_hex.f at h
  split at h
  · rename_i h0
    obtain rfl := Option.some.inj h
    have := bank_hex.go a0.toNat (by omega) w hG
    rw [Int.toNat_of_nonneg h0.1] at this
    exact this
  · cases h
def strconv_Itoa.f (a0 : Int) : Option ByteArray := if -9223372036854775808 ≤ a0 ∧ a0 ≤ 9223372036854775807 then some ⟨(Lib.itoa a0).toArray⟩ else none
theorem strconv_Itoa.calls (a0 : Int) (r : ByteArray) (w : World) (hG : GG w) (h : strconv_Itoa.f a0 = some r) :
    Calls Tryz.prog 62 #[.int .i64 a0] w fun e w' => e = .returned (.string r) ∧ Below w.heap.size w w' := by
  unfold strconv_Itoa.f at h
  split at h
  · rename_i h0
    obtain rfl := Option.some.inj h
    refine (Tryz.strconv_Itoa a0 h0.1 h0.2 w hG.pow).mono ?_
    rintro e w' ⟨rfl, k, os, rfl⟩
    exact ⟨rfl, Lib.below_grow _ _ (Nat.le_refl _) _ _⟩
  · cases h
end Go.Proofs.YtndojpcjhkncgaaGreatDoor.Q
end

section
namespace Go.Proofs.YtndojpcjhkncgaaGreatDoor.Q
open Go Go.RowKit Go.Proofs.YtndojpcjhkncgaaGreatDoorW.PrintWords
set_option linter.unusedVariables false
set_option linter.unusedSimpArgs false
structure Bd (w0 : World) (b : Nat) (l : List UInt8) (W : World) : Prop where
  is : Lib.IsBuilderF 100 5 w0.heap.size b (Lib.byteCells l) W
  low : Below w0.heap.size w0 W
structure Ok (b : Nat) (W W' : World) : Prop where
  kept : Lib.OthersKept 5 (some b) W W'
theorem Ok.refl (b : Nat) (W : World) : Ok b W W := ⟨Lib.OthersKept.refl _ _ _⟩
theorem Ok.trans {b : Nat} {W1 W2 W3 : World} (h : Ok b W1 W2) (k : Ok b W2 W3) : Ok b W1 W3 := ⟨h.kept.trans k.kept⟩
theorem Ok.of_below {b : Nat} {W1 W2 : World} (h : Below W1.heap.size W1 W2) : Ok b W1 W2 := ⟨fun k o hk _ _ => (h.block k (Array.getElem?_eq_some_iff.1 hk).1).trans hk⟩
theorem Ok.then_ {b : Nat} {W1 W2 W3 : World} (h : Ok b W1 W2) (k : Below W2.heap.size W2 W3) : Ok b W1 W3 := h.trans (Ok.of_below k)
theorem Ok.at_ {b g : Nat} {W W' : World} (h : Ok b W W') {cs : Array Value} {t : TypeId} {fz : Nat × Nat} (hg : W.heap[g]? = some (.cells cs t fz)) (hb : g ≠ b) (ht : t ≠ 5) : W'.heap[g]? = some (.cells cs t fz) :=
  h.kept g _ hg (fun e => hb (Option.some.inj e)) (fun c z e => ht (by injection e))
theorem Bd.then_ {w0 : World} {b : Nat} {l : List UInt8} {W W' : World} (h : Bd w0 b l W) (k : Below W.heap.size W W') : Bd w0 b l W' := by
  have one : ∀ p, Lib.BuilderAtF 100 5 w0.heap.size b p (Lib.byteCells l) W → Lib.BuilderAtF 100 5 w0.heap.size b p (Lib.byteCells l) W' := by
    rintro p ⟨hB, v, hb, ho, hne⟩
    exact ⟨hB, v, (k.block b (Array.getElem?_eq_some_iff.1 hb).1).trans hb, ho.kept (grown_of_below k none) (by cases v.ownBlock <;> simp), hne⟩
  exact ⟨h.is.imp (one _) (one _), below_then h.low h.low.size k⟩
theorem Bd.lt {w0 : World} {b : Nat} {l : List UInt8} {W : World} (h : Bd w0 b l W) : b < W.heap.size := by
  rcases h.is with h | h
  · exact h.lt
  · exact h.lt
theorem WriteByte_b (w0 : World) (b : Nat) (l : List UInt8) (c : UInt8) (W : World) (h : Bd w0 b l W) (hlen : l.length + 1 ≤ 140737488355328) :
    Calls Tryz.prog 61 #[.pointer (some ⟨b, 0, none⟩), .int .u8 c.toNat] W fun e W' => e = .returned .nilIface ∧ Bd w0 b (l ++ [c]) W' ∧ Ok b W W' := by
  refine (WriteByte_k w0.heap.size b (Lib.byteCells l) c.toNat W h.is (by rw [Lib.byteCells_length]; exact hlen) h.low.size).mono ?_
  rintro e W' ⟨rfl, h1, h2, h3⟩
  rw [show Lib.byteCells l ++ [Value.int .u8 (c.toNat : Int)] = Lib.byteCells (l ++ [c]) by rw [Lib.byteCells_append]; rfl] at h1
  exact ⟨rfl, ⟨.inr h1, h.low.trans h2⟩, ⟨h3⟩⟩
theorem WriteString_b (w0 : World) (b : Nat) (l : List UInt8) (s : ByteArray) (W : World) (h : Bd w0 b l W) (hlen : l.length + s.size ≤ 140737488355328) :
    Calls Tryz.prog 60 #[.pointer (some ⟨b, 0, none⟩), .string s] W fun e W' => e = .returned (.tuple #[.int .i64 s.size, .nilIface]) ∧ Bd w0 b (l ++ s.data.toList) W' ∧ Ok b W W' := by
  refine (WriteString_k w0.heap.size b (Lib.byteCells l) s W h.is (by rw [Lib.byteCells_length]; exact hlen) h.low.size).mono ?_
  rintro e W' ⟨rfl, h1, h2, h3⟩
  rw [Lib.strCells_eq, ← Lib.byteCells_append] at h1
  exact ⟨rfl, ⟨.inr h1, h.low.trans h2⟩, ⟨h3⟩⟩
def numsL (ns : List Int) : List UInt8 := ns.flatMap fun n => 32 :: Lib.itoa n
def lineL (word : List UInt8) (ns : List Int) : List UInt8 := word ++ numsL ns ++ [10]
theorem numsL_snoc (ns : List Int) (k : Nat) (hk : k < ns.length) : numsL (ns.take (k + 1)) = numsL (ns.take k) ++ [32] ++ Lib.itoa ns[k] := by
  unfold numsL
  rw [List.take_succ_eq_append_getElem hk, List.flatMap_append]
  simp
theorem numsL_take_le (ns : List Int) (k : Nat) : (numsL (ns.take k)).length ≤ (numsL ns).length := by
  have h : numsL ns = numsL (ns.take k) ++ numsL (ns.drop k) := by
    unfold numsL
    rw [← List.flatMap_append, List.take_append_drop]
  rw [h, List.length_append]
  omega
set_option maxHeartbeats 1000000 in
set_option maxRecDepth 100000 in
theorem line_go (w0 : World) (hG : GG w0) (b : Nat) (l : List UInt8) (word : ByteArray) (ns : List Int) (g : Nat) (W : World) (hI : Bd w0 b l W)
    (hns : ∀ n ∈ ns, -9223372036854775808 ≤ n ∧ n ≤ 9223372036854775807) (hlen : l.length + (lineL word.data.toList ns).length ≤ 140737488355328)
    (hg : W.heap[g]? = some (.cells (ns.map (Value.int .i64)).toArray 3 (0, 0))) (hgb : g ≠ b) (hnl : ns.length ≤ 1000) :
    Calls Tryz.prog 59 #[.string word, .slice (some ⟨g, 0, none⟩) ns.length ns.length, .pointer (some ⟨b, 0, none⟩)] W fun e W' => e = .returned (.tuple #[]) ∧ Bd w0 b (l ++ lineL word.data.toList ns) W' ∧ Ok b W W' := by
  have HG := Lib.hid hG
  have HI := Lib.hid hI
  have HN := Lib.hid hns
  have hll : (lineL word.data.toList ns).length = word.size + (numsL ns).length + 1 := by
    unfold lineL
    rw [List.length_append, List.length_append, Array.length_toList]
    rfl
  have HL := Lib.hid (show l.length + word.size + (numsL ns).length + 1 ≤ 140737488355328 by omega)
  have Hg := Lib.hid hg
  clear hG hI hns hlen hg hll
  go_enter Tryz.func59, Tryz.ntmps59
  go_wp2_with (go_at_call 60; refine (WriteString_b w0 b l word W HI.out (by have := HL.out; omega)).mono ?_; rintro e W1 ⟨rfl, hI1, hk1⟩)
  have HI1 := Lib.hid hI1
  have HK1 := Lib.hid hk1
  clear hI1 hk1
  go_loopw [11] (fun i wr => ∃ k : Nat, k ≤ ns.length ∧ i = .int .i64 k ∧ Hid (Bd w0 b (l ++ word.data.toList ++ numsL (ns.take k)) wr) ∧ Hid (Ok b W wr)) (fun i _ => ns.length - (intOf i).toNat)
  case atStart => exact ⟨0, Nat.zero_le _, rfl, by rw [List.take_zero]; exact Lib.hid (by simpa [numsL] using HI1.out), HK1⟩
  case round =>
    obtain ⟨k, hk, rfl, hI, hK⟩ := hrel
    have hb := hK.out.at_ Hg.out hgb (by decide)
    by_cases hlt : k < ns.length
    · have hc : wr.cell? ⟨g, k, none⟩ = some (.int .i64 ns[k]) := (blk_cell hb k).trans (by simp [hlt])
      obtain ⟨n, hn⟩ : ∃ n, n = ns[k] := ⟨_, rfl⟩
      rw [← hn] at hc
      have hr := HN.out n (by rw [hn]; exact List.getElem_mem hlt)
      have hle := numsL_take_le ns (k + 1)
      rw [numsL_snoc ns k hlt, ← hn, List.length_append, List.length_append] at hle
      have HS := Lib.hid (show l ++ word.data.toList ++ numsL (ns.take (k + 1)) = l ++ word.data.toList ++ numsL (ns.take k) ++ [32] ++ Lib.itoa n by rw [numsL_snoc ns k hlt, hn]; simp [List.append_assoc])
      have HE := Lib.hid hle
      have hit : strconv_Itoa.f n = some ⟨(Lib.itoa n).toArray⟩ := if_pos hr
      have HIt := Lib.hid hit
      have HR := Lib.hid hr
      have hwl : word.data.toList.length = word.size := by rw [Array.length_toList]; rfl
      have HW := Lib.hid hwl
      clear hn hle hit hr hwl hb
      go_wp2_with (go_at_call 61; refine (WriteByte_b w0 b _ 32 wr hI.out (by have h1 := HL.out; have h2 := HE.out; have h3 := HW.out; simp only [List.length_append, List.length_singleton] at h2 ⊢; omega)).mono ?_; rintro e W2 ⟨rfl, hI2, hk2⟩)
      have HI2 := Lib.hid hI2
      have HK2 := Lib.hid hk2
      clear hI2 hk2
      refine (strconv_Itoa.calls n _ W2 (HG.out.below HI2.out.low) HIt.out).mono ?_
      rintro e W3 ⟨rfl, hb3⟩
      have HI3 := Lib.hid (HI2.out.then_ hb3)
      have HK3 := Lib.hid (HK2.out.then_ hb3)
      clear hb3 HI2 HK2
      go_wp2_with fail
      refine (WriteString_b w0 b _ ⟨(Lib.itoa n).toArray⟩ W3 HI3.out (by have h1 := HL.out; have h2 := HE.out; have h3 := HW.out; simp only [List.length_append, List.length_singleton] at h2 ⊢; show _ + (Lib.itoa n).toArray.size ≤ _; simp only [List.size_toArray]; omega)).mono ?_
      rintro e W4 ⟨rfl, hI4, hk4⟩
      have HI4 := Lib.hid hI4
      have HK4 := Lib.hid (hK.out.trans (HK3.out.trans hk4))
      clear hI4 hk4 HI3 HK3 hc HIt HR
      go_wp2_with fail
      go_roundw
      case rel => exact ⟨k + 1, by omega, by go_num, by rw [HS.out]; exact HI4, HK4⟩
      case measure => simp [intOf]; omega
    · obtain rfl : k = ns.length := by omega
      have hI' := hI.out
      rw [List.take_length] at hI'
      have HI2 := Lib.hid hI'
      clear hI hI' hb
      have hwl : word.data.toList.length = word.size := by rw [Array.length_toList]; rfl
      have HW := Lib.hid hwl
      clear hwl
      go_wp2_with (go_at_call 61; refine (WriteByte_b w0 b _ 10 wr HI2.out (by have h1 := HL.out; have h3 := HW.out; simp only [List.length_append]; omega)).mono ?_; rintro e W2 ⟨rfl, hI2, hk2⟩)
      go_end0
      exact ⟨rfl, by simpa [lineL, List.append_assoc] using hI2, hK.out.trans hk2⟩
end Go.Proofs.YtndojpcjhkncgaaGreatDoor.Q
end

section
namespace Go.Proofs.YtndojpcjhkncgaaGreatDoor.Q
open Go Go.RowKit Go.Proofs.YtndojpcjhkncgaaGreatDoorW.PrintWords
set_option linter.unusedVariables false
set_option linter.unusedSimpArgs false
def orderL (o : S47) : List UInt8 := lineL [111, 114, 100, 101, 114] [o.f0, o.f1, o.f2, o.f3, o.f4]
def fileL (num day : Int) (os : List S47) (s : Int) : List UInt8 := lineL [80, 65, 89] [num, day, os.length, s] ++ os.flatMap orderL
theorem flat_take_le {α : Type} (f : α → List UInt8) (os : List α) (k : Nat) (hk : k < os.length) : ((os.take k).flatMap f).length + (f os[k]).length ≤ (os.flatMap f).length := by
  have h : os.flatMap f = (os.take (k + 1)).flatMap f ++ (os.drop (k + 1)).flatMap f := by rw [← List.flatMap_append, List.take_append_drop]
  rw [h, List.length_append, List.take_succ_eq_append_getElem hk, List.flatMap_append, List.length_append]
  simp
set_option maxHeartbeats 1000000 in
set_option maxRecDepth 100000 in
theorem Write1_go (w0 : World) (hG : GG w0) (b gf : Nat) (l : List UInt8) (num day : Int) (A : Option Addr) (c : Nat) (os : List S47) (W : World) (hI : Bd w0 b l W)
    (hf : W.heap[gf]? = some (.cells #[.int .i64 num, .int .i64 day, .slice A os.length c] 27 (0, 0))) (hgf : gf ≠ b) (hC : Kd.C k47 w0 A os.length os) (hc : os.length ≤ c) (k : Nat) (s : Int) (hs : bank_total.f k num day os = some s)
    (hn : ∀ n ∈ [num, day, (os.length : Int), s], -9223372036854775808 ≤ n ∧ n ≤ 9223372036854775807) (ho : ∀ o ∈ os, ∀ n ∈ [o.f0, o.f1, o.f2, o.f3, o.f4], -9223372036854775808 ≤ n ∧ n ≤ 9223372036854775807)
    (hlen : l.length + (fileL num day os s).length ≤ 140737488355328) :
    Calls Tryz.prog 45 #[.func (.func 59) #[] #[.pointer (some ⟨b, 0, none⟩)], .pointer (some ⟨gf, 0, none⟩)] W fun e W' => e = .returned (.tuple #[]) ∧ Bd w0 b (l ++ fileL num day os s) W' ∧ Ok b W W' := by
  have hll : (lineL [80, 65, 89] [num, day, os.length, s]).length ≤ (fileL num day os s).length := by unfold fileL; rw [List.length_append]; omega
  have HLine : ∀ (w' : World) (g : Nat), Bd w0 b l w' → w'.heap[g]? = some (.cells #[.int .i64 num, .int .i64 day, .int .i64 os.length, .int .i64 s] 3 (0, 0)) → g ≠ b →
      Calls Tryz.prog 59 #[.string ⟨#[80, 65, 89]⟩, .slice (some ⟨g, 0, none⟩) 4 4, .pointer (some ⟨b, 0, none⟩)] w' fun e W' => e = .returned (.tuple #[]) ∧ Bd w0 b (l ++ lineL [80, 65, 89] [num, day, os.length, s]) W' ∧ Ok b w' W' :=
    fun w' g h1 h2 h3 => line_go w0 hG b l ⟨#[80, 65, 89]⟩ [num, day, os.length, s] g w' h1 hn (by exact Nat.le_trans (Nat.add_le_add_left hll _) hlen) h2 h3 (by simp)
  have HTot : ∀ w', Bd w0 b l w' → Calls Tryz.prog 46 #[.agg #[.int .i64 num, .int .i64 day, .slice A os.length c]] w' fun e w2 => e = .returned (.int .i64 s) ∧ Below w'.heap.size w' w2 :=
    fun w' h => bank_total.calls k num day A c os s w' (Kd.C_below hC h.low) hc hs
  have HL := Lib.hid HLine
  have HG0 := Lib.hid hG
  have HT := Lib.hid HTot
  have HI := Lib.hid hI
  have HC := Lib.hid hC
  have HO := Lib.hid ho
  have HN := Lib.hid hlen
  have HF := Lib.hid hf
  have c0 : W.cell? ⟨gf, 0, none⟩ = some (.int .i64 num) := blk_cell hf 0
  have c1 : W.cell? ⟨gf, 1, none⟩ = some (.int .i64 day) := blk_cell hf 1
  have c2 : W.cell? ⟨gf, 2, none⟩ = some (.slice A os.length c) := blk_cell hf 2
  clear HLine HTot hI hC ho hlen hf hn hs hG hll
  have hk1 : Ok b W W.drew := Ok.of_below (below_drew (Below.refl _ _))
  have hS : ∀ w', Ok b W w' → (w'.cell? ⟨gf, 0, none⟩ = some (.int .i64 num) ∧ w'.cell? ⟨gf, 1, none⟩ = some (.int .i64 day) ∧ w'.cell? ⟨gf, 2, none⟩ = some (.slice A os.length c)) :=
    fun w' h => have h := h.at_ HF.out hgf (by decide); ⟨blk_cell h 0, blk_cell h 1, blk_cell h 2⟩
  have HS := Lib.hid hS
  have HK1 := Lib.hid hk1
  have HI1 := Lib.hid (HI.out.then_ (below_drew (Below.refl W.heap.size W)))
  have HG := Lib.hid hgf
  clear hS hk1 hgf HI
  go_enter Tryz.func45, Tryz.ntmps45
  go_wp2_with fail
  go_region_held3 (fun w' => (w'.cell? ⟨gf, 0, none⟩ = some (.int .i64 num) ∧ w'.cell? ⟨gf, 1, none⟩ = some (.int .i64 day) ∧ w'.cell? ⟨gf, 2, none⟩ = some (.slice A os.length c))) (first | exact HS.out _ HK1.out | exact HS.out _ HK2.out | exact HS.out _ HK3.out | exact HS.out _ HK4.out)
    (first | (go_at_call 46; refine (HT.out _ HI1.out).mono ?_; rintro e w2 ⟨rfl, hb2⟩; have HI2 := Lib.hid (HI1.out.then_ hb2); have HK2 := Lib.hid (HK1.out.then_ hb2); have HK3 := Lib.hid (HK2.out.then_ (below_alloc (Below.refl w2.heap.size w2) (.cells #[.int .i64 num, .int .i64 day, .int .i64 os.length, .int .i64 s] 3))); have HI3 := Lib.hid (HI2.out.then_ (below_alloc (Below.refl w2.heap.size w2) (.cells #[.int .i64 num, .int .i64 day, .int .i64 os.length, .int .i64 s] 3))); have HB2 := Lib.hid hb2; clear hb2) | (go_at_call 59; refine (HL.out _ w2.heap.size HI3.out (heap_alloc_new w2 _) (fun e => Nat.lt_irrefl _ (Nat.lt_of_lt_of_eq HI2.out.lt e))).mono ?_; rintro e w3 ⟨rfl, hI4, hk4⟩; have HI4 := Lib.hid hI4; have HK4 := Lib.hid (HK3.out.trans hk4); clear hI4 hk4))
  clear HI1 HI2 HI3 HK1 HK2 HK3 HB2 c0 c1 c2 HT HL
  obtain ⟨d0, d1, d2⟩ := HS.out _ HK4.out
  clear d0 d1
  go_wp2_with fail
  go_loopw [20] (fun i wr => ∃ k : Nat, k ≤ os.length ∧ i = .int .i64 k ∧ Hid (Bd w0 b (l ++ lineL [80, 65, 89] [num, day, os.length, s] ++ (os.take k).flatMap orderL) wr) ∧ Hid (Ok b W wr)) (fun i _ => os.length - (intOf i).toNat)
  case atStart => exact ⟨0, Nat.zero_le _, rfl, Lib.hid (by simpa using HI4.out), HK4⟩
  case round =>
    obtain ⟨k, hk, rfl, hI, hK⟩ := hrel
    clear d2 HI4 HK4
    have hm : os.length ≤ 9223372036854775807 := HC.out.2.1
    by_cases hlt : k < os.length
    · obtain ⟨ad, rfl, e0, e1, e2, e3, e4⟩ := at_T47 (Kd.C_below HC.out hI.out.low) (k : Int) (by omega) (by omega)
      obtain ⟨o, hor⟩ : ∃ o, o = rd_T47 os (k : Int) := ⟨_, rfl⟩
      rw [← hor] at e0 e1 e2 e3 e4
      simp only [Int.toNat_natCast] at e0 e1 e2 e3 e4
      have HOR := Lib.hid hor
      clear hor
      have hlo : l.length + (lineL [80, 65, 89] [num, day, os.length, s]).length + ((os.take k).flatMap orderL).length + (orderL o).length ≤ 140737488355328 := by
        have h := HN.out
        have h2 := flat_take_le orderL os k hlt
        rw [show os[k] = o by rw [HOR.out]; unfold rd_T47; simp [hlt]] at h2
        unfold fileL at h
        rw [List.length_append] at h
        omega
      have hon := HO.out o (by rw [HOR.out]; unfold rd_T47; simp [hlt])
      have HOL := Lib.hid hlo
      have HON := Lib.hid hon
      clear hlo hon
      go_wp2_with fail
      have HB1 := Lib.hid (below_alloc (below_alloc (Below.refl wr.heap.size wr) (.cells #[.int .i64 o.f0, .int .i64 o.f1, .int .i64 o.f2, .int .i64 o.f3, .int .i64 o.f4] 47)) (.cells #[.int .i64 o.f0, .int .i64 o.f1, .int .i64 o.f2, .int .i64 o.f3, .int .i64 o.f4] 3))
      have hnb : wr.heap.size + 1 ≠ b := by have := hI.out.lt; omega
      refine (line_go w0 HG0.out b _ ⟨#[111, 114, 100, 101, 114]⟩ [o.f0, o.f1, o.f2, o.f3, o.f4] (wr.heap.size + 1) _ (hI.out.then_ HB1.out) HON.out (by rw [List.length_append, List.length_append]; exact HOL.out) (by have := heap_alloc_new (wr.alloc (.cells #[.int .i64 o.f0, .int .i64 o.f1, .int .i64 o.f2, .int .i64 o.f3, .int .i64 o.f4] 47)) (.cells #[.int .i64 o.f0, .int .i64 o.f1, .int .i64 o.f2, .int .i64 o.f3, .int .i64 o.f4] 3); rw [World.size_alloc] at this; exact this) hnb (by simp)).mono ?_
      rintro e w5 ⟨rfl, hI5, hk5⟩
      have HI5 := Lib.hid hI5
      have HK5 := Lib.hid ((hK.out.then_ HB1.out).trans hk5)
      have HS2 := Lib.hid (show l ++ lineL [80, 65, 89] [num, day, os.length, s] ++ (os.take (k + 1)).flatMap orderL = l ++ lineL [80, 65, 89] [num, day, os.length, s] ++ (os.take k).flatMap orderL ++ orderL o by
        rw [List.take_succ_eq_append_getElem hlt, List.flatMap_append, show os[k] = o by rw [HOR.out]; unfold rd_T47; simp [hlt]]
        simp [List.append_assoc])
      clear hI5 hk5 HB1 hnb e0 e1 e2 e3 e4 HOL HON
      go_wp2_with fail
      go_roundw
      case rel => exact ⟨k + 1, by omega, by go_num, Lib.hid (by rw [HS2.out]; exact HI5.out), HK5⟩
      case measure => simp [intOf]; omega
    · obtain rfl : k = os.length := by omega
      have hI' := hI.out
      rw [List.take_length] at hI'
      have HI2 := Lib.hid hI'
      clear hI hI'
      go_wp2_with fail
      go_end0
      exact ⟨rfl, by have := HI2.out; unfold fileL; rw [← List.append_assoc]; exact this, hK.out⟩
def returnL (o : S49) : List UInt8 := lineL [114, 101, 116, 117, 114, 110] [o.f0, o.f1]
def answerL (num day : Int) (os : List S49) : List UInt8 := lineL [66, 65, 67, 75] [num, day, os.length] ++ os.flatMap returnL
set_option maxHeartbeats 1000000 in
set_option maxRecDepth 100000 in
theorem WriteAnswer1_go (w0 : World) (hG : GG w0) (b gf : Nat) (l : List UInt8) (num day : Int) (A : Option Addr) (c : Nat) (os : List S49) (W : World) (hI : Bd w0 b l W)
    (hf : W.heap[gf]? = some (.cells #[.int .i64 num, .int .i64 day, .slice A os.length c] 30 (0, 0))) (hgf : gf ≠ b) (hC : Kd.C k49 w0 A os.length os) (hc : os.length ≤ c)
    (hn : ∀ n ∈ [num, day, (os.length : Int)], -9223372036854775808 ≤ n ∧ n ≤ 9223372036854775807) (ho : ∀ o ∈ os, ∀ n ∈ [o.f0, o.f1], -9223372036854775808 ≤ n ∧ n ≤ 9223372036854775807)
    (hlen : l.length + (answerL num day os).length ≤ 140737488355328) :
    Calls Tryz.prog 54 #[.func (.func 59) #[] #[.pointer (some ⟨b, 0, none⟩)], .pointer (some ⟨gf, 0, none⟩)] W fun e W' => e = .returned (.tuple #[]) ∧ Bd w0 b (l ++ answerL num day os) W' ∧ Ok b W W' := by
  have hll : (lineL [66, 65, 67, 75] [num, day, os.length]).length ≤ (answerL num day os).length := by unfold answerL; rw [List.length_append]; omega
  have HLine : ∀ (w' : World) (g : Nat), Bd w0 b l w' → w'.heap[g]? = some (.cells #[.int .i64 num, .int .i64 day, .int .i64 os.length] 3 (0, 0)) → g ≠ b →
      Calls Tryz.prog 59 #[.string ⟨#[66, 65, 67, 75]⟩, .slice (some ⟨g, 0, none⟩) 3 3, .pointer (some ⟨b, 0, none⟩)] w' fun e W' => e = .returned (.tuple #[]) ∧ Bd w0 b (l ++ lineL [66, 65, 67, 75] [num, day, os.length]) W' ∧ Ok b w' W' :=
    fun w' g h1 h2 h3 => line_go w0 hG b l ⟨#[66, 65, 67, 75]⟩ [num, day, os.length] g w' h1 hn (by exact Nat.le_trans (Nat.add_le_add_left hll _) hlen) h2 h3 (by simp)
  have HL := Lib.hid HLine
  have HG0 := Lib.hid hG
  have HI := Lib.hid hI
  have HC := Lib.hid hC
  have HO := Lib.hid ho
  have HN := Lib.hid hlen
  have HF := Lib.hid hf
  have c0 : W.cell? ⟨gf, 0, none⟩ = some (.int .i64 num) := blk_cell hf 0
  have c1 : W.cell? ⟨gf, 1, none⟩ = some (.int .i64 day) := blk_cell hf 1
  have c2 : W.cell? ⟨gf, 2, none⟩ = some (.slice A os.length c) := blk_cell hf 2
  clear HLine hI hC ho hlen hf hn hG hll
  have hS : ∀ w', Ok b W w' → (w'.cell? ⟨gf, 0, none⟩ = some (.int .i64 num) ∧ w'.cell? ⟨gf, 1, none⟩ = some (.int .i64 day) ∧ w'.cell? ⟨gf, 2, none⟩ = some (.slice A os.length c)) :=
    fun w' h => have h := h.at_ HF.out hgf (by decide); ⟨blk_cell h 0, blk_cell h 1, blk_cell h 2⟩
  have HS := Lib.hid hS
  have HG := Lib.hid hgf
  have HK3 := Lib.hid (Ok.of_below (b := b) (below_alloc (Below.refl W.heap.size W) (.cells #[.int .i64 num, .int .i64 day, .int .i64 os.length] 3)))
  have HI3 := Lib.hid (HI.out.then_ (below_alloc (Below.refl W.heap.size W) (.cells #[.int .i64 num, .int .i64 day, .int .i64 os.length] 3)))
  clear hS hgf
  go_enter Tryz.func54, Tryz.ntmps54
  go_wp2_with fail
  refine (HL.out _ W.heap.size HI3.out (heap_alloc_new W _) (fun e => Nat.lt_irrefl _ (Nat.lt_of_lt_of_eq HI.out.lt e))).mono ?_
  rintro e w3 ⟨rfl, hI4, hk4⟩
  have HI4 := Lib.hid hI4
  have HK4 := Lib.hid (HK3.out.trans hk4)
  clear hI4 hk4 HI3 HK3 c0 c1 c2 HL
  obtain ⟨d0, d1, d2⟩ := HS.out _ HK4.out
  clear d0 d1
  go_wp2_with fail
  go_loopw [18] (fun i wr => ∃ k : Nat, k ≤ os.length ∧ i = .int .i64 k ∧ Hid (Bd w0 b (l ++ lineL [66, 65, 67, 75] [num, day, os.length] ++ (os.take k).flatMap returnL) wr) ∧ Hid (Ok b W wr)) (fun i _ => os.length - (intOf i).toNat)
  case atStart => exact ⟨0, Nat.zero_le _, rfl, Lib.hid (by simpa using HI4.out), HK4⟩
  case round =>
    obtain ⟨k, hk, rfl, hI, hK⟩ := hrel
    clear d2 HI4 HK4
    have hm : os.length ≤ 9223372036854775807 := HC.out.2.1
    by_cases hlt : k < os.length
    · obtain ⟨ad, rfl, e0, e1⟩ := at_T49 (Kd.C_below HC.out hI.out.low) (k : Int) (by omega) (by omega)
      obtain ⟨o, hor⟩ : ∃ o, o = rd_T49 os (k : Int) := ⟨_, rfl⟩
      rw [← hor] at e0 e1
      simp only [Int.toNat_natCast] at e0 e1
      have HOR := Lib.hid hor
      clear hor
      have hlo : l.length + (lineL [66, 65, 67, 75] [num, day, os.length]).length + ((os.take k).flatMap returnL).length + (returnL o).length ≤ 140737488355328 := by
        have h := HN.out
        have h2 := flat_take_le returnL os k hlt
        rw [show os[k] = o by rw [HOR.out]; unfold rd_T49; simp [hlt]] at h2
        unfold answerL at h
        rw [List.length_append] at h
        omega
      have hon := HO.out o (by rw [HOR.out]; unfold rd_T49; simp [hlt])
      have HOL := Lib.hid hlo
      have HON := Lib.hid hon
      clear hlo hon
      go_wp2_with fail
      have HB1 := Lib.hid (below_alloc (below_alloc (Below.refl wr.heap.size wr) (.cells #[.int .i64 o.f0, .int .i64 o.f1] 49)) (.cells #[.int .i64 o.f0, .int .i64 o.f1] 3))
      have hnb : wr.heap.size + 1 ≠ b := by have := hI.out.lt; omega
      refine (line_go w0 HG0.out b _ ⟨#[114, 101, 116, 117, 114, 110]⟩ [o.f0, o.f1] (wr.heap.size + 1) _ (hI.out.then_ HB1.out) HON.out (by rw [List.length_append, List.length_append]; exact HOL.out) (by have := heap_alloc_new (wr.alloc (.cells #[.int .i64 o.f0, .int .i64 o.f1] 49)) (.cells #[.int .i64 o.f0, .int .i64 o.f1] 3); rw [World.size_alloc] at this; exact this) hnb (by simp)).mono ?_
      rintro e w5 ⟨rfl, hI5, hk5⟩
      have HI5 := Lib.hid hI5
      have HK5 := Lib.hid ((hK.out.then_ HB1.out).trans hk5)
      have HS2 := Lib.hid (show l ++ lineL [66, 65, 67, 75] [num, day, os.length] ++ (os.take (k + 1)).flatMap returnL = l ++ lineL [66, 65, 67, 75] [num, day, os.length] ++ (os.take k).flatMap returnL ++ returnL o by
        rw [List.take_succ_eq_append_getElem hlt, List.flatMap_append, show os[k] = o by rw [HOR.out]; unfold rd_T49; simp [hlt]]
        simp [List.append_assoc])
      clear hI5 hk5 HB1 hnb e0 e1 HOL HON
      go_wp2_with fail
      go_roundw
      case rel => exact ⟨k + 1, by omega, by go_num, Lib.hid (by rw [HS2.out]; exact HI5.out), HK5⟩
      case measure => simp [intOf]; omega
    · obtain rfl : k = os.length := by omega
      have hI' := hI.out
      rw [List.take_length] at hI'
      have HI2 := Lib.hid hI'
      clear hI hI'
      go_wp2_with fail
      go_end0
      exact ⟨rfl, by have := HI2.out; unfold answerL; rw [← List.append_assoc]; exact this, hK.out⟩
end Go.Proofs.YtndojpcjhkncgaaGreatDoor.Q
end

section
namespace Go.Proofs.YtndojpcjhkncgaaGreatDoor.Q
open Go.RowKit Go.Proofs.YtndojpcjhkncgaaGreatDoorW.PrintWords Go.Proofs.YtndojpcjhkncgaaGreatDoorW.PrintLast Go.Proofs.YtndojpcjhkncgaaGreatDoorW.PrintMore
attribute [local go_sem] max2_int min2_int max_two min_two max_three min_three max_four min_four   -- for this text's walks alone
set_option linter.unusedVariables false
set_option linter.unusedSimpArgs false
def bank_end.l0 : Nat → ByteArray → Int → Int → Int → Int → Option (ByteArray)
 | 0, _, _, _, _, _ => none
 | k + 1, x0, x3, x4, x7, x8 => if x8 < x7 then (if 0 ≤ x8 then (if x8 < (x0.size : Int) then (bank_end.l0 k x0 ((x3 + ((bt x0 x8) % 4294967296)) % 4294967296) ((x4 + ((((wrap64 (x8 + 1)) % 4294967296) * ((bt x0 x8) % 4294967296)) % 4294967296)) % 4294967296) x7 (wrap64 (x8 + 1))) else (none)) else (none)) else ((bank_hex.f x3).bind fun t122 => (if 4 + t122.size ≤ 9223372036854775807 then (if 4 + t122.size + 1 ≤ 9223372036854775807 then ((bank_hex.f x4).bind fun t123 => (if 4 + t122.size + 1 + t123.size ≤ 9223372036854775807 then (if 4 + t122.size + 1 + t123.size + 1 ≤ 9223372036854775807 then (some (((((⟨#[69, 78, 68, 32]⟩ : ByteArray) ++ t122) ++ (⟨#[32]⟩ : ByteArray)) ++ t123) ++ (⟨#[10]⟩ : ByteArray))) else (none)) else (none))) else (none)) else (none)))
def bank_end.f (k : Nat) (a0 : ByteArray) : Option (ByteArray) := bank_end.l0 k a0 0 0 (a0.size : Int) 0
theorem bank_end.mono_l : ∀ k, (∀ y0 y1 y2 y3 y4, LeO (bank_end.l0 k y0 y1 y2 y3 y4) (bank_end.l0 (k + 1) y0 y1 y2 y3 y4))
 | 0 => fun _ _ _ _ _ r h => by simp [bank_end.l0] at h
 | k + 1 => by
  have ih0 := bank_end.mono_l k
  ·
   intro y0 y1 y2 y3 y4
   unfold bank_end.l0
   repeat' first
   | (with_reducible exact ih0 _ _ _ _ _)
   | (with_reducible exact LeO.refl _)
   | (with_reducible exact LeO.none _)
   | (with_reducible refine LeO.ite ?_ ?_)
   | (with_reducible refine LeO.bind ?_ (fun _ => ?_))
   | exact ih0 _ _ _ _ _
   | exact LeO.none _
   | refine LeO.ite ?_ ?_
   | refine LeO.bind ?_ (fun _ => ?_)
theorem bank_end.mono : ∀ a0 k, LeO (bank_end.f k a0) (bank_end.f (k + 1) a0) := by
 intro a0 k
 have ih0 := bank_end.mono_l k
 unfold bank_end.f
 repeat' first
   | (with_reducible exact ih0 _ _ _ _ _)
   | (with_reducible exact LeO.refl _)
   | (with_reducible exact LeO.none _)
   | (with_reducible refine LeO.ite ?_ ?_)
   | (with_reducible refine LeO.bind ?_ (fun _ => ?_))
   | exact ih0 _ _ _ _ _
   | exact LeO.none _
   | refine LeO.ite ?_ ?_
   | refine LeO.bind ?_ (fun _ => ?_)
set_option maxHeartbeats 8000000 in
set_option maxRecDepth 100000 in
theorem bank_end.calls (k : Nat) (a0 : ByteArray) (r : ByteArray) (w : World) (hG : GG w) (h : bank_end.f k a0 = some r) :
  Calls Tryz.prog 64 #[.string a0] w fun e w' => e = .returned (.string r) ∧ Below w.heap.size w w' := by
 have HG := Aside0.mk hG; clear hG; have HB := Aside0.mk (Below.refl w.heap.size w); have H : (bank_end.l0 k a0 0 0 (a0.size : Int) 0) = some r := h; clear h; have H' := Aside0.mk H; clear H
 go_enter Tryz.func64, Tryz.ntmps64
 go_wp2
 go_loopg [3, 4, 8] k (fun kq v3 v4 v8 w' => ∃ (x3_1 : Int) (x4_1 : Int) (x8_1 : Int), v3 = .int .u32 x3_1 ∧ v4 = .int .u32 x4_1 ∧ v8 = .int .i64 x8_1 ∧ Aside0 (bank_end.l0 kq a0 x3_1 x4_1 (a0.size : Int) x8_1 = some r) ∧ Aside0 (kq ≤ k) ∧ Aside0 (Below w.heap.size w w'))
 case atStart => exact ⟨(0), (0), (0), (by first | rfl | (simp; done) | (simp [*]; done)), (by first | rfl | (simp; done) | (simp [*]; done)), (by first | rfl | (simp; done) | (simp [*]; done)), H', ⟨Nat.le_refl _⟩, ⟨zB⟩⟩
 case round =>
  clear H'; obtain ⟨x3_1, x4_1, x8_1, rfl, rfl, rfl, HA, HK1, HB⟩ := hrel
  cases gk with
  | zero => exact absurd HA.out (by simp [bank_end.l0])
  | succ k1 =>
   have H := HA.out; clear HA
   simp only [bank_end.l0] at H
   by_cases c2 : x8_1 < (a0.size : Int)
   ·
    rw [if_pos c2] at H
    have c2b0 : decide (x8_1 < (a0.size : Int)) = true := decide_eq_true c2; clear c2
    by_cases c3 : 0 ≤ x8_1
    ·
     rw [if_pos c3] at H
     have c3b0 : decide (0 ≤ x8_1) = true := decide_eq_true c3; clear c3
     by_cases c4 : x8_1 < (a0.size : Int)
     ·
      rw [if_pos c4] at H
      have c4b0 : decide (x8_1 < (a0.size : Int)) = true := decide_eq_true c4; clear c4; have H' := Aside0.mk H; clear H; have p5 : 0 ≤ (x8_1 : Int) := zD; have q5 : x8_1 < (a0.size : Int) := zD; have hx5 := bt_at a0 x8_1; replace p5 := eq_true p5; replace q5 := eq_true q5; have p6 : 0 ≤ (x8_1 : Int) := zD; have q6 : x8_1 < (a0.size : Int) := zD; have hx6 := bt_at a0 x8_1; replace p6 := eq_true p6; replace q6 := eq_true q6
      go_wp2
      go_roundg k1
      case measure => have := HK1.out; omega
      case rel => exact ⟨((x3_1 + ((bt a0 x8_1) % 4294967296)) % 4294967296), ((x4_1 + ((((wrap64 (x8_1 + 1)) % 4294967296) * ((bt a0 x8_1) % 4294967296)) % 4294967296)) % 4294967296), (wrap64 (x8_1 + 1)), (by first | rfl | (simp; done) | (simp [*]; done)), (by first | rfl | (simp; done) | (simp [*]; done)), (by first | rfl | (simp; done) | (simp [*]; done)), H', ⟨by have := HK1.out; omega⟩, ⟨zB⟩⟩
     ·
      rw [if_neg c4] at H
      exact absurd H (by simp)
    ·
     rw [if_neg c3] at H
     exact absurd H (by simp)
   ·
    rw [if_neg c2] at H
    have c2b0 : decide (x8_1 < (a0.size : Int)) = false := decide_eq_false c2; clear c2; replace H := Option.bind_eq_some_iff.mp H; obtain ⟨t122, A70, H⟩ := H; replace H : (if 4 + t122.size ≤ 9223372036854775807 then (if 4 + t122.size + 1 ≤ 9223372036854775807 then ((bank_hex.f x4_1).bind fun t123 => (if 4 + t122.size + 1 + t123.size ≤ 9223372036854775807 then (if 4 + t122.size + 1 + t123.size + 1 ≤ 9223372036854775807 then (some (((((⟨#[69, 78, 68, 32]⟩ : ByteArray) ++ t122) ++ (⟨#[32]⟩ : ByteArray)) ++ t123) ++ (⟨#[10]⟩ : ByteArray))) else (none)) else (none))) else (none)) else (none)) = some r := H; have A7 := Aside0.mk A70; clear A70
    by_cases c8 : 4 + t122.size ≤ 9223372036854775807
    ·
     rw [if_pos c8] at H
     have c8b0 := eq_true c8; have c8b1 : decide (4 + t122.size ≤ 9223372036854775807) = true := decide_eq_true c8
     try have c8b2 : (9223372036854775807 < 4 + t122.size) = False := eq_false (Nat.not_lt.2 c8)
     by_cases c9 : 4 + t122.size + 1 ≤ 9223372036854775807
     ·
      rw [if_pos c9] at H
      have c9b0 := eq_true c9; have c9b1 : decide (4 + t122.size + 1 ≤ 9223372036854775807) = true := decide_eq_true c9
      try have c9b2 : (9223372036854775807 < 4 + t122.size + 1) = False := eq_false (Nat.not_lt.2 c9)
      replace H := Option.bind_eq_some_iff.mp H; obtain ⟨t123, A100, H⟩ := H; replace H : (if 4 + t122.size + 1 + t123.size ≤ 9223372036854775807 then (if 4 + t122.size + 1 + t123.size + 1 ≤ 9223372036854775807 then (some (((((⟨#[69, 78, 68, 32]⟩ : ByteArray) ++ t122) ++ (⟨#[32]⟩ : ByteArray)) ++ t123) ++ (⟨#[10]⟩ : ByteArray))) else (none)) else (none)) = some r := H; have A10 := Aside0.mk A100; clear A100
      by_cases c11 : 4 + t122.size + 1 + t123.size ≤ 9223372036854775807
      ·
       rw [if_pos c11] at H
       have c11b0 := eq_true c11; have c11b1 : decide (4 + t122.size + 1 + t123.size ≤ 9223372036854775807) = true := decide_eq_true c11
       try have c11b2 : (9223372036854775807 < 4 + t122.size + 1 + t123.size) = False := eq_false (Nat.not_lt.2 c11)
       by_cases c12 : 4 + t122.size + 1 + t123.size + 1 ≤ 9223372036854775807
       ·
        rw [if_pos c12] at H
        have c12b0 := eq_true c12; have c12b1 : decide (4 + t122.size + 1 + t123.size + 1 ≤ 9223372036854775807) = true := decide_eq_true c12
        try have c12b2 : (9223372036854775807 < 4 + t122.size + 1 + t123.size + 1) = False := eq_false (Nat.not_lt.2 c12)
        obtain rfl := Option.some.inj H
        go_wp2_with (first | ((with_reducible refine gate_callee (f := 74) rfl ?_); refine goesL_ (some 29) rfl rfl Tryz.func74 (by kernel_rfl) rfl #[.int .u32 x3_1] rfl (by (try simp only [List.map_toArray, List.map_cons, List.map_nil]); try rfl) ?_; (with_reducible refine (bank_hex.calls x3_1 t122 _ ?side1 A7.out).mono ?_); (case side1 => exact GG.below HG.out zB); rintro e w13 ⟨rfl, hb⟩; refine ⟨_, rfl, ?_⟩; replace HB := zBs hb; (try clear hb); (try clear hb2); (try clear hk); (try clear hi)) | ((with_reducible refine gate_callee (f := 74) rfl ?_); refine goesL_ (some 33) rfl rfl Tryz.func74 (by kernel_rfl) rfl #[.int .u32 x4_1] rfl (by (try simp only [List.map_toArray, List.map_cons, List.map_nil]); try rfl) ?_; (with_reducible refine (bank_hex.calls x4_1 t123 _ ?side1 A10.out).mono ?_); (case side1 => exact GG.below HG.out zB); rintro e w14 ⟨rfl, hb⟩; refine ⟨_, rfl, ?_⟩; replace HB := zBs hb; (try clear hb); (try clear hb2); (try clear hk); (try clear hi)))
        go_ret
        exact ⟨zE, zB⟩
       ·
        rw [if_neg c12] at H
        exact absurd H (by simp)
      ·
       rw [if_neg c11] at H
       exact absurd H (by simp)
     ·
      rw [if_neg c9] at H
      exact absurd H (by simp)
    ·
     rw [if_neg c8] at H
     exact absurd H (by simp)
end Go.Proofs.YtndojpcjhkncgaaGreatDoor.Q
end

section
namespace Go.Proofs.YtndojpcjhkncgaaGreatDoor.Q
open Go Go.RowKit Go.Proofs.YtndojpcjhkncgaaGreatDoorW.PrintWords Go.Proofs.YtndojpcjhkncgaaGreatDoorW.PrintLast Go.Proofs.YtndojpcjhkncgaaGreatDoorW.PrintMore
set_option linter.unusedVariables false
set_option linter.unusedSimpArgs false
theorem String_b (w0 : World) (b : Nat) (l : List UInt8) (W : World) (h : Bd w0 b l W) :
    Calls Tryz.prog 63 #[.pointer (some ⟨b, 0, none⟩)] W fun e W' => e = .returned (.string ⟨l.toArray⟩) ∧ Bd w0 b l W' ∧ Ok b W W' := by
  refine (Tryz.Builder_String_any_k w0.heap.size b l W h.is h.low.size).mono ?_
  rintro e W' ⟨rfl, h1, h2, h3⟩
  exact ⟨rfl, ⟨h1, h.low.trans h2⟩, ⟨h3⟩⟩
theorem Bd.new (w0 W : World) (h : Below w0.heap.size w0 W) : Bd w0 W.heap.size [] (W.alloc (.cells #[.pointer none, .slice none 0 0] 100)) := by
  refine ⟨.inl ⟨h.size, _, heap_alloc_new W _, ?_, by simp [Value.ownBlock]⟩, below_alloc h _⟩
  exact World.ownsRowF_nil _ _ _ _
def closedL (k : Nat) (l : List UInt8) : Option ByteArray :=
  if l.length ≤ 140737488355328 then (bank_end.f k ⟨l.toArray⟩).bind fun e => if l.length + e.size ≤ 9223372036854775807 then some ((⟨l.toArray⟩ : ByteArray) ++ e) else none else none
set_option maxHeartbeats 1000000 in
set_option maxRecDepth 100000 in
theorem written_W (w0 : World) (hG : GG w0) (W : World) (hB : Below w0.heap.size w0 W) (gf : Nat) (l : List UInt8) (k : Nat) (r : ByteArray) (hr : closedL k l = some r) (hgf : gf < W.heap.size) (cs : Array Value) (t : TypeId) (ht : t ≠ 5) (hf : W.heap[gf]? = some (.cells cs t (0, 0)))
    (hL : ∀ b W', Bd w0 b [] W' → W'.heap[gf]? = some (.cells cs t (0, 0)) → gf ≠ b → Calls Tryz.prog 45 #[.func (.func 59) #[] #[.pointer (some ⟨b, 0, none⟩)], .pointer (some ⟨gf, 0, none⟩)] W' fun e W2 => e = .returned (.tuple #[]) ∧ Bd w0 b l W2 ∧ Ok b W' W2) :
    Calls Tryz.prog 44 #[.func (.func 45) #[] #[.pointer (some ⟨gf, 0, none⟩)]] W fun e W' => e = .returned (.string r) ∧ Below w0.heap.size w0 W' := by
  obtain ⟨hll, e, he, hle, hre⟩ : l.length ≤ 140737488355328 ∧ ∃ e, bank_end.f k ⟨l.toArray⟩ = some e ∧ l.length + e.size ≤ 9223372036854775807 ∧ (⟨l.toArray⟩ : ByteArray) ++ e = r := by
    unfold closedL at hr
    split at hr
    · rename_i h1
      obtain ⟨e, he, hr⟩ := Option.bind_eq_some_iff.mp hr
      split at hr
      · rename_i h2
        exact ⟨h1, e, he, h2, Option.some.inj hr⟩
      · cases hr
    · cases hr
  have HN := Lib.hid (hL W.heap.size _ (Bd.new w0 W hB) ((below_alloc (Below.refl W.heap.size W) _).block gf hgf |>.trans hf) (by omega))
  obtain ⟨s, hs⟩ : ∃ s : ByteArray, s = ⟨l.toArray⟩ := ⟨_, rfl⟩
  have hsz : s.size + e.size ≤ 9223372036854775807 := by rw [hs]; show l.toArray.size + _ ≤ _; rw [List.size_toArray]; exact hle
  have HStr : ∀ W', Bd w0 W.heap.size l W' → Calls Tryz.prog 63 #[.pointer (some ⟨W.heap.size, 0, none⟩)] W' fun e W2 => e = .returned (.string s) ∧ Bd w0 W.heap.size l W2 ∧ Ok W.heap.size W' W2 := by rw [hs]; exact fun W' h => String_b w0 _ l W' h
  have HEnd : ∀ W', Below w0.heap.size w0 W' → Calls Tryz.prog 64 #[.string s] W' fun e' W2 => e' = .returned (.string e) ∧ Below W'.heap.size W' W2 := fun W' h => by rw [hs]; exact bank_end.calls k _ e W' (hG.below h) he
  have HS := Lib.hid HStr
  have HE := Lib.hid HEnd
  have HR := Lib.hid (show s ++ e = r by rw [hs]; exact hre)
  clear hL hr hG hB hll he hle hre hs HStr HEnd hf hgf ht
  go_enter Tryz.func44, Tryz.ntmps44
  go_wp2_with fail
  refine HN.out.mono ?_
  rintro e1 W1 ⟨rfl, hI1, hk1⟩
  have HI1 := Lib.hid hI1
  clear hI1 hk1 HN
  go_wp2_with fail
  refine (HS.out _ HI1.out).mono ?_
  rintro e1 W2 ⟨rfl, hI2, hk2⟩
  have HI2 := Lib.hid hI2
  clear hI2 hk2
  go_wp2_with fail
  refine (HS.out _ HI2.out).mono ?_
  rintro e1 W3 ⟨rfl, hI3, hk3⟩
  have HI3 := Lib.hid hI3
  clear hI3 hk3
  go_wp2_with fail
  refine (HE.out _ HI3.out.low).mono ?_
  rintro e1 W4 ⟨rfl, hb4⟩
  have HB4 := Lib.hid (below_then HI3.out.low HI3.out.low.size hb4)
  clear hb4
  go_wp2_with fail
  go_ret
  exact ⟨by rw [← HR.out]; rfl, HB4.out⟩
set_option maxHeartbeats 1000000 in
set_option maxRecDepth 100000 in
theorem written_A (w0 : World) (hG : GG w0) (W : World) (hB : Below w0.heap.size w0 W) (gf : Nat) (l : List UInt8) (k : Nat) (r : ByteArray) (hr : closedL k l = some r) (hgf : gf < W.heap.size) (cs : Array Value) (t : TypeId) (ht : t ≠ 5) (hf : W.heap[gf]? = some (.cells cs t (0, 0)))
    (hL : ∀ b W', Bd w0 b [] W' → W'.heap[gf]? = some (.cells cs t (0, 0)) → gf ≠ b → Calls Tryz.prog 54 #[.func (.func 59) #[] #[.pointer (some ⟨b, 0, none⟩)], .pointer (some ⟨gf, 0, none⟩)] W' fun e W2 => e = .returned (.tuple #[]) ∧ Bd w0 b l W2 ∧ Ok b W' W2) :
    Calls Tryz.prog 44 #[.func (.func 54) #[] #[.pointer (some ⟨gf, 0, none⟩)]] W fun e W' => e = .returned (.string r) ∧ Below w0.heap.size w0 W' := by
  obtain ⟨hll, e, he, hle, hre⟩ : l.length ≤ 140737488355328 ∧ ∃ e, bank_end.f k ⟨l.toArray⟩ = some e ∧ l.length + e.size ≤ 9223372036854775807 ∧ (⟨l.toArray⟩ : ByteArray) ++ e = r := by
    unfold closedL at hr
    split at hr
    · rename_i h1
      obtain ⟨e, he, hr⟩ := Option.bind_eq_some_iff.mp hr
      split at hr
      · rename_i h2
        exact ⟨h1, e, he, h2, Option.some.inj hr⟩
      · cases hr
    · cases hr
  have HN := Lib.hid (hL W.heap.size _ (Bd.new w0 W hB) ((below_alloc (Below.refl W.heap.size W) _).block gf hgf |>.trans hf) (by omega))
  obtain ⟨s, hs⟩ : ∃ s : ByteArray, s = ⟨l.toArray⟩ := ⟨_, rfl⟩
  have hsz : s.size + e.size ≤ 9223372036854775807 := by rw [hs]; show l.toArray.size + _ ≤ _; rw [List.size_toArray]; exact hle
  have HStr : ∀ W', Bd w0 W.heap.size l W' → Calls Tryz.prog 63 #[.pointer (some ⟨W.heap.size, 0, none⟩)] W' fun e W2 => e = .returned (.string s) ∧ Bd w0 W.heap.size l W2 ∧ Ok W.heap.size W' W2 := by rw [hs]; exact fun W' h => String_b w0 _ l W' h
  have HEnd : ∀ W', Below w0.heap.size w0 W' → Calls Tryz.prog 64 #[.string s] W' fun e' W2 => e' = .returned (.string e) ∧ Below W'.heap.size W' W2 := fun W' h => by rw [hs]; exact bank_end.calls k _ e W' (hG.below h) he
  have HS := Lib.hid HStr
  have HE := Lib.hid HEnd
  have HR := Lib.hid (show s ++ e = r by rw [hs]; exact hre)
  clear hL hr hG hB hll he hle hre hs HStr HEnd hf hgf ht
  go_enter Tryz.func44, Tryz.ntmps44
  go_wp2_with fail
  refine HN.out.mono ?_
  rintro e1 W1 ⟨rfl, hI1, hk1⟩
  have HI1 := Lib.hid hI1
  clear hI1 hk1 HN
  go_wp2_with fail
  refine (HS.out _ HI1.out).mono ?_
  rintro e1 W2 ⟨rfl, hI2, hk2⟩
  have HI2 := Lib.hid hI2
  clear hI2 hk2
  go_wp2_with fail
  refine (HS.out _ HI2.out).mono ?_
  rintro e1 W3 ⟨rfl, hI3, hk3⟩
  have HI3 := Lib.hid hI3
  clear hI3 hk3
  go_wp2_with fail
  refine (HE.out _ HI3.out.low).mono ?_
  rintro e1 W4 ⟨rfl, hb4⟩
  have HB4 := Lib.hid (below_then HI3.out.low HI3.out.low.size hb4)
  clear hb4
  go_wp2_with fail
  go_ret
  exact ⟨by rw [← HR.out]; rfl, HB4.out⟩
def intOk (n : Int) : Bool := decide (-9223372036854775808 ≤ n) && decide (n ≤ 9223372036854775807)
theorem intOk_all {l : List Int} (h : l.all intOk = true) : ∀ n ∈ l, -9223372036854775808 ≤ n ∧ n ≤ 9223372036854775807 := by
  intro n hn
  have := List.all_eq_true.mp h n hn
  simpa [intOk] using this
def fitsF (a0 a1 : Int) (l : List S47) (s : Int) : Bool := [a0, a1, (l.length : Int), s].all intOk && l.all fun o => [o.f0, o.f1, o.f2, o.f3, o.f4].all intOk
def fitsA (a0 a1 : Int) (l : List S49) : Bool := [a0, a1, (l.length : Int)].all intOk && l.all fun o => [o.f0, o.f1].all intOk
def bank_Write.f (k : Nat) (a0 a1 : Int) (l : List S47) : Option (ByteArray × Int) := (bank_Valid.f k a0 a1 l).bind fun t => if t = true then ((bank_total.f k a0 a1 l).bind fun s => if fitsF a0 a1 l s = true then ((closedL k (fileL a0 a1 l s)).bind fun x => some (x, 0)) else none) else some (⟨#[]⟩, 2)
def bank_WriteAnswer.f (k : Nat) (a0 a1 : Int) (l : List S49) : Option (ByteArray × Int) := (bank_Right.f k a0 a1 l).bind fun t => if t = true then (if fitsA a0 a1 l = true then ((closedL k (answerL a0 a1 l)).bind fun x => some (x, 0)) else none) else some (⟨#[]⟩, 2)
theorem closedL.mono (k : Nat) (l : List UInt8) : LeO (closedL k l) (closedL (k + 1) l) := by
  unfold closedL
  exact LeO.ite (LeO.bind (bank_end.mono _ _) fun _ => LeO.refl _) (LeO.none _)
set_option maxHeartbeats 1000000 in
set_option maxRecDepth 100000 in
theorem bank_Write.calls (k : Nat) (a0_0 : Int) (a0_1 : Int) (A0_2 : Option Addr) (c0_2 : Nat) (l0_2 : List (S47)) (r1 : ByteArray) (r2 : Int) (w : World) (hr0_2 : Kd.C k47 w A0_2 l0_2.length l0_2) (hc0_2 : l0_2.length ≤ c0_2) (hG : GG w) (h : bank_Write.f k a0_0 a0_1 l0_2 = some (r1, r2)) :
    Calls Tryz.prog 23 #[.agg #[.int .i64 a0_0, .int .i64 a0_1, .slice A0_2 l0_2.length c0_2]] w fun e w' => e = .returned (.tuple #[.string r1, .int .i64 r2]) ∧ Below w.heap.size w w' := by
  have hb0 := below_alloc (Below.refl w.heap.size w) (.cells #[.int .i64 a0_0, .int .i64 a0_1, .slice A0_2 l0_2.length c0_2] 27)
  have hf0 := heap_alloc_new w (.cells #[.int .i64 a0_0, .int .i64 a0_1, .slice A0_2 l0_2.length c0_2] 27)
  unfold bank_Write.f at h
  obtain ⟨t, ht, h⟩ := Option.bind_eq_some_iff.mp h
  have HV := Lib.hid (bank_Valid.calls k a0_0 a0_1 A0_2 c0_2 l0_2 t _ (Kd.C_below hr0_2 hb0) hc0_2 ht)
  have HB0 := Lib.hid hb0
  have HF0 := Lib.hid hf0
  cases t with
  | false =>
    simp only [Bool.false_eq_true, if_false, Option.some.injEq, Prod.mk.injEq] at h
    obtain ⟨rfl, rfl⟩ := h
    clear hr0_2 hc0_2 hG hb0 hf0 ht
    go_enter Tryz.func23, Tryz.ntmps23
    go_wp2_with fail
    refine HV.out.mono ?_
    rintro e W1 ⟨rfl, hb1⟩
    have HB1 := Lib.hid (below_then HB0.out HB0.out.size hb1)
    clear hb1 HV
    go_wp2_with fail
    go_ret2
    exact ⟨rfl, HB1.out⟩
  | true =>
    simp only [if_true] at h
    obtain ⟨s, hs, h⟩ := Option.bind_eq_some_iff.mp h
    split at h
    · rename_i hfit
      obtain ⟨x, hx, h⟩ := Option.bind_eq_some_iff.mp h
      simp only [Option.some.injEq, Prod.mk.injEq] at h
      obtain ⟨rfl, rfl⟩ := h
      unfold fitsF at hfit
      obtain ⟨h1, h2⟩ := Bool.and_eq_true_iff.mp hfit
      have hlen : (fileL a0_0 a0_1 l0_2 s).length ≤ 140737488355328 := by
        unfold closedL at hx
        split at hx
        · assumption
        · cases hx
      have HW : ∀ W1, Below (w.alloc (.cells #[.int .i64 a0_0, .int .i64 a0_1, .slice A0_2 l0_2.length c0_2] 27)).heap.size (w.alloc (.cells #[.int .i64 a0_0, .int .i64 a0_1, .slice A0_2 l0_2.length c0_2] 27)) W1 →
          Calls Tryz.prog 44 #[.func (.func 45) #[] #[.pointer (some ⟨w.heap.size, 0, none⟩)]] W1 fun e W' => e = .returned (.string x) ∧ Below w.heap.size w W' := by
        intro W1 hb1
        have hz : w.heap.size < (w.alloc (.cells #[.int .i64 a0_0, .int .i64 a0_1, .slice A0_2 l0_2.length c0_2] 27)).heap.size := (Array.getElem?_eq_some_iff.1 hf0).1
        have hf1 := (hb1.block _ hz).trans hf0
        refine written_W w hG W1 (below_then hb0 hb0.size hb1) w.heap.size _ k x hx (Nat.lt_of_lt_of_le hz hb1.size) _ 27 (by decide) hf1 ?_
        intro b W' hI hg hgb
        exact Write1_go w hG b w.heap.size [] a0_0 a0_1 A0_2 c0_2 l0_2 W' hI hg hgb hr0_2 hc0_2 k s hs (intOk_all h1) (fun o ho => intOk_all (List.all_eq_true.mp h2 o ho)) (by simpa using hlen)
      have HWr := Lib.hid HW
      clear hr0_2 hc0_2 hG hb0 hf0 ht HW hlen h1 h2 hfit hx hs
      go_enter Tryz.func23, Tryz.ntmps23
      go_wp2_with fail
      refine HV.out.mono ?_
      rintro e W1 ⟨rfl, hb1⟩
      have HB1 := Lib.hid hb1
      clear hb1 HV
      go_wp2_with fail
      refine (HWr.out _ HB1.out).mono ?_
      rintro e W2 ⟨rfl, hb2⟩
      have HB2 := Lib.hid hb2
      clear hb2
      go_wp2_with fail
      go_ret2
      exact ⟨rfl, HB2.out⟩
    · cases h
set_option maxHeartbeats 1000000 in
set_option maxRecDepth 100000 in
theorem bank_WriteAnswer.calls (k : Nat) (a0_0 : Int) (a0_1 : Int) (A0_2 : Option Addr) (c0_2 : Nat) (l0_2 : List (S49)) (r1 : ByteArray) (r2 : Int) (w : World) (hr0_2 : Kd.C k49 w A0_2 l0_2.length l0_2) (hc0_2 : l0_2.length ≤ c0_2) (hG : GG w) (h : bank_WriteAnswer.f k a0_0 a0_1 l0_2 = some (r1, r2)) :
    Calls Tryz.prog 29 #[.agg #[.int .i64 a0_0, .int .i64 a0_1, .slice A0_2 l0_2.length c0_2]] w fun e w' => e = .returned (.tuple #[.string r1, .int .i64 r2]) ∧ Below w.heap.size w w' := by
  have hb0 := below_alloc (Below.refl w.heap.size w) (.cells #[.int .i64 a0_0, .int .i64 a0_1, .slice A0_2 l0_2.length c0_2] 30)
  have hf0 := heap_alloc_new w (.cells #[.int .i64 a0_0, .int .i64 a0_1, .slice A0_2 l0_2.length c0_2] 30)
  unfold bank_WriteAnswer.f at h
  obtain ⟨t, ht, h⟩ := Option.bind_eq_some_iff.mp h
  have HV := Lib.hid (bank_Right.calls k a0_0 a0_1 A0_2 c0_2 l0_2 t _ (Kd.C_below hr0_2 hb0) hc0_2 ht)
  have HB0 := Lib.hid hb0
  have HF0 := Lib.hid hf0
  cases t with
  | false =>
    simp only [Bool.false_eq_true, if_false, Option.some.injEq, Prod.mk.injEq] at h
    obtain ⟨rfl, rfl⟩ := h
    clear hr0_2 hc0_2 hG hb0 hf0 ht
    go_enter Tryz.func29, Tryz.ntmps29
    go_wp2_with fail
    refine HV.out.mono ?_
    rintro e W1 ⟨rfl, hb1⟩
    have HB1 := Lib.hid (below_then HB0.out HB0.out.size hb1)
    clear hb1 HV
    go_wp2_with fail
    go_ret2
    exact ⟨rfl, HB1.out⟩
  | true =>
    simp only [if_true] at h
    split at h
    · rename_i hfit
      obtain ⟨x, hx, h⟩ := Option.bind_eq_some_iff.mp h
      simp only [Option.some.injEq, Prod.mk.injEq] at h
      obtain ⟨rfl, rfl⟩ := h
      unfold fitsA at hfit
      obtain ⟨h1, h2⟩ := Bool.and_eq_true_iff.mp hfit
      have hlen : (answerL a0_0 a0_1 l0_2).length ≤ 140737488355328 := by
        unfold closedL at hx
        split at hx
        · assumption
        · cases hx
      have HW : ∀ W1, Below (w.alloc (.cells #[.int .i64 a0_0, .int .i64 a0_1, .slice A0_2 l0_2.length c0_2] 30)).heap.size (w.alloc (.cells #[.int .i64 a0_0, .int .i64 a0_1, .slice A0_2 l0_2.length c0_2] 30)) W1 →
          Calls Tryz.prog 44 #[.func (.func 54) #[] #[.pointer (some ⟨w.heap.size, 0, none⟩)]] W1 fun e W' => e = .returned (.string x) ∧ Below w.heap.size w W' := by
        intro W1 hb1
        have hz : w.heap.size < (w.alloc (.cells #[.int .i64 a0_0, .int .i64 a0_1, .slice A0_2 l0_2.length c0_2] 30)).heap.size := (Array.getElem?_eq_some_iff.1 hf0).1
        have hf1 := (hb1.block _ hz).trans hf0
        refine written_A w hG W1 (below_then hb0 hb0.size hb1) w.heap.size _ k x hx (Nat.lt_of_lt_of_le hz hb1.size) _ 30 (by decide) hf1 ?_
        intro b W' hI hg hgb
        exact WriteAnswer1_go w hG b w.heap.size [] a0_0 a0_1 A0_2 c0_2 l0_2 W' hI hg hgb hr0_2 hc0_2 (intOk_all h1) (fun o ho => intOk_all (List.all_eq_true.mp h2 o ho)) (by simpa using hlen)
      have HWr := Lib.hid HW
      clear hr0_2 hc0_2 hG hb0 hf0 ht HW hlen h1 h2 hfit hx
      go_enter Tryz.func29, Tryz.ntmps29
      go_wp2_with fail
      refine HV.out.mono ?_
      rintro e W1 ⟨rfl, hb1⟩
      have HB1 := Lib.hid hb1
      clear hb1 HV
      go_wp2_with fail
      refine (HWr.out _ HB1.out).mono ?_
      rintro e W2 ⟨rfl, hb2⟩
      have HB2 := Lib.hid hb2
      clear hb2
      go_wp2_with fail
      go_ret2
      exact ⟨rfl, HB2.out⟩
    · cases h
end Go.Proofs.YtndojpcjhkncgaaGreatDoor.Q
end

section
namespace Go.Proofs.YtndojpcjhkncgaaGreatDoor.Q
open Go.RowKit Go.Proofs.YtndojpcjhkncgaaGreatDoorW.PrintWords Go.Proofs.YtndojpcjhkncgaaGreatDoorW.PrintLast Go.Proofs.YtndojpcjhkncgaaGreatDoorW.PrintMore
attribute [local go_sem] max2_int min2_int max_two min_two max_three min_three max_four min_four   -- for this text's walks alone
set_option linter.unusedVariables false
set_option linter.unusedSimpArgs false
def annuitantref36_hex.l0 : Nat → Int → ByteArray → Int → Option (ByteArray)
 | 0, _, _, _ => none
 | k + 1, x0, x4, x5 => if x5 < 8 then (if 0 ≤ (Int.tmod x0 16) then (if (Int.tmod x0 16) ≤ (wrap64 ((Int.tmod x0 16) + 1)) then (if (wrap64 ((Int.tmod x0 16) + 1)) ≤ 16 then (if ((⟨#[48, 49, 50, 51, 52, 53, 54, 55, 56, 57, 97, 98, 99, 100, 101, 102]⟩ : ByteArray).extract ((Int.tmod x0 16) : Int).toNat ((wrap64 ((Int.tmod x0 16) + 1)) : Int).toNat).size + x4.size ≤ 9223372036854775807 then (annuitantref36_hex.l0 k (wrap64 (Int.tdiv x0 16)) (((⟨#[48, 49, 50, 51, 52, 53, 54, 55, 56, 57, 97, 98, 99, 100, 101, 102]⟩ : ByteArray).extract ((Int.tmod x0 16) : Int).toNat ((wrap64 ((Int.tmod x0 16) + 1)) : Int).toNat) ++ x4) (wrap64 (x5 + 1))) else (none)) else (none)) else (none)) else (none)) else (some x4)
def annuitantref36_hex.f (k : Nat) (a0 : Int) : Option (ByteArray) := annuitantref36_hex.l0 k a0 (⟨#[]⟩ : ByteArray) 0
set_option maxHeartbeats 8000000 in
set_option maxRecDepth 100000 in
theorem annuitantref36_hex.calls (k : Nat) (a0 : Int) (r : ByteArray) (w : World) (h : annuitantref36_hex.f k a0 = some r) :
  Calls Tryz.prog 34 #[.int .i64 a0] w fun e w' => e = .returned (.string r) ∧ Drawn0 w w' := by
 have H : (annuitantref36_hex.l0 k a0 (⟨#[]⟩ : ByteArray) 0) = some r := h; clear h; have H' := Aside0.mk H; clear H
 go_enter Tryz.func34, Tryz.ntmps34
 go_wp2
 go_loopg [0, 4, 5] k (fun kq v0 v4 v5 w' => ∃ (x0_1 : Int) (x4_1 : ByteArray) (x5_1 : Int), v0 = .int .i64 x0_1 ∧ v4 = .string x4_1 ∧ v5 = .int .i64 x5_1 ∧ Aside0 (annuitantref36_hex.l0 kq x0_1 x4_1 x5_1 = some r) ∧ Aside0 (kq ≤ k) ∧ Drawn0 w w')
 case atStart => exact ⟨(a0), ((⟨#[]⟩ : ByteArray)), (0), (by first | rfl | (simp; done) | (simp [*]; done)), (by first | rfl | (simp; done) | (simp [*]; done)), (by first | rfl | (simp; done) | (simp [*]; done)), H', ⟨Nat.le_refl _⟩, by repeat (first | exact Drawn0.refl _ | apply Drawn0.step)⟩
 case round =>
  clear H'; obtain ⟨x0_1, x4_1, x5_1, rfl, rfl, rfl, HA, HK1, ⟨m1, rfl⟩⟩ := hrel
  cases gk with
  | zero => exact absurd HA.out (by simp [annuitantref36_hex.l0])
  | succ k1 =>
   have H := HA.out; clear HA
   simp only [annuitantref36_hex.l0] at H
   by_cases c2 : x5_1 < 8
   ·
    rw [if_pos c2] at H
    have c2b0 : decide (x5_1 < 8) = true := decide_eq_true c2; clear c2
    obtain ⟨ji3, hji3⟩ : ∃ j_ : Int, (Int.tmod x0_1 16) = j_ := ⟨_, rfl⟩
    replace H : (if 0 ≤ (ji3) then (if (ji3) ≤ (wrap64 ((ji3) + 1)) then (if (wrap64 ((ji3) + 1)) ≤ 16 then (if ((⟨#[48, 49, 50, 51, 52, 53, 54, 55, 56, 57, 97, 98, 99, 100, 101, 102]⟩ : ByteArray).extract ((ji3) : Int).toNat ((wrap64 ((ji3) + 1)) : Int).toNat).size + x4_1.size ≤ 9223372036854775807 then (annuitantref36_hex.l0 k1 (wrap64 (Int.tdiv x0_1 16)) (((⟨#[48, 49, 50, 51, 52, 53, 54, 55, 56, 57, 97, 98, 99, 100, 101, 102]⟩ : ByteArray).extract ((ji3) : Int).toNat ((wrap64 ((ji3) + 1)) : Int).toNat) ++ x4_1) (wrap64 (x5_1 + 1))) else (none)) else (none)) else (none)) else (none)) = some r := by first | (rw [hji3] at H; exact H) | (simp only [hji3] at H ⊢; exact H)
    by_cases c4 : 0 ≤ (ji3)
    ·
     rw [if_pos c4] at H
     have c4b0 := eq_true c4; have c4b1 : decide (0 ≤ (ji3)) = true := decide_eq_true c4; clear c4
     by_cases c5 : (ji3) ≤ (wrap64 ((ji3) + 1))
     ·
      rw [if_pos c5] at H
      have c5b0 := eq_true c5; have c5b1 : decide ((ji3) ≤ (wrap64 ((ji3) + 1))) = true := decide_eq_true c5
      by_cases c6 : (wrap64 ((ji3) + 1)) ≤ 16
      ·
       rw [if_pos c6] at H
       have c6b0 := eq_true c6; have c6b1 : decide ((wrap64 ((ji3) + 1)) ≤ 16) = true := decide_eq_true c6
       by_cases c7 : ((⟨#[48, 49, 50, 51, 52, 53, 54, 55, 56, 57, 97, 98, 99, 100, 101, 102]⟩ : ByteArray).extract ((ji3) : Int).toNat ((wrap64 ((ji3) + 1)) : Int).toNat).size + x4_1.size ≤ 9223372036854775807
       ·
        rw [if_pos c7] at H
        have c7b0 := eq_true c7; have c7b1 : decide (((⟨#[48, 49, 50, 51, 52, 53, 54, 55, 56, 57, 97, 98, 99, 100, 101, 102]⟩ : ByteArray).extract ((ji3) : Int).toNat ((wrap64 ((ji3) + 1)) : Int).toNat).size + x4_1.size ≤ 9223372036854775807) = true := decide_eq_true c7
        try have c7b2 : (9223372036854775807 < ((⟨#[48, 49, 50, 51, 52, 53, 54, 55, 56, 57, 97, 98, 99, 100, 101, 102]⟩ : ByteArray).extract ((ji3) : Int).toNat ((wrap64 ((ji3) + 1)) : Int).toNat).size + x4_1.size) = False := eq_false (Nat.not_lt.2 c7)
        have H' := Aside0.mk H; clear H
        go_wp2
        go_roundg k1
        case measure => have := HK1.out; omega
        case rel => exact ⟨(wrap64 (Int.tdiv x0_1 16)), (((⟨#[48, 49, 50, 51, 52, 53, 54, 55, 56, 57, 97, 98, 99, 100, 101, 102]⟩ : ByteArray).extract ((ji3) : Int).toNat ((wrap64 ((ji3) + 1)) : Int).toNat) ++ x4_1), (wrap64 (x5_1 + 1)), (by first | rfl | (simp; done) | (simp [*]; done)), (by first | rfl | (simp; done) | (simp only [← hji3] <;> (first | rfl | simp)) | (simp [*]; done)), (by first | rfl | (simp; done) | (simp [*]; done)), H', ⟨by have := HK1.out; omega⟩, by repeat (first | exact Drawn0.refl _ | apply Drawn0.step)⟩
       ·
        rw [if_neg c7] at H
        exact absurd H (by simp)
      ·
       rw [if_neg c6] at H
       exact absurd H (by simp)
     ·
      rw [if_neg c5] at H
      exact absurd H (by simp)
    ·
     rw [if_neg c4] at H
     exact absurd H (by simp)
   ·
    rw [if_neg c2] at H
    have c2b0 : decide (x5_1 < 8) = false := decide_eq_false c2; clear c2; obtain rfl := Option.some.inj H
    go_wp2
    go_ret
    exact ⟨by first | rfl | (simp; done) | (simp [*]; done), by repeat (first | exact Drawn0.refl _ | apply Drawn0.step)⟩
end Go.Proofs.YtndojpcjhkncgaaGreatDoor.Q
end

section
namespace Go.Proofs.YtndojpcjhkncgaaGreatDoor.Q
open Go.RowKit Go.Proofs.YtndojpcjhkncgaaGreatDoorW.PrintWords Go.Proofs.YtndojpcjhkncgaaGreatDoorW.PrintLast Go.Proofs.YtndojpcjhkncgaaGreatDoorW.PrintMore
attribute [local go_sem] max2_int min2_int max_two min_two max_three min_three max_four min_four   -- for this text's walks alone
set_option linter.unusedVariables false
set_option linter.unusedSimpArgs false
def annuitantref36_End.l0 : Nat → ByteArray → Int → Int → Int → Option (ByteArray)
 | 0, _, _, _, _ => none
 | k + 1, x0, x3, x4, x5 => if x5 < (x0.size : Int) then (if 0 ≤ x5 then (annuitantref36_End.l0 k x0 (Int.tmod (wrap64 (x3 + (wrap64 (bt x0 x5)))) 4294967296) (Int.tmod (wrap64 (x4 + (wrap64 ((wrap64 (x5 + 1)) * (wrap64 (bt x0 x5)))))) 4294967296) (wrap64 (x5 + 1))) else (none)) else ((annuitantref36_hex.f k x3).bind fun t221 => (if 4 + t221.size ≤ 9223372036854775807 then (if 4 + t221.size + 1 ≤ 9223372036854775807 then ((annuitantref36_hex.f k x4).bind fun t222 => (if 4 + t221.size + 1 + t222.size ≤ 9223372036854775807 then (if 4 + t221.size + 1 + t222.size + 1 ≤ 9223372036854775807 then (some (((((⟨#[69, 78, 68, 32]⟩ : ByteArray) ++ t221) ++ (⟨#[32]⟩ : ByteArray)) ++ t222) ++ (⟨#[10]⟩ : ByteArray))) else (none)) else (none))) else (none)) else (none)))
def annuitantref36_End.f (k : Nat) (a0 : ByteArray) : Option (ByteArray) := annuitantref36_End.l0 k a0 0 0 0
set_option maxHeartbeats 8000000 in
set_option maxRecDepth 100000 in
theorem annuitantref36_End.calls (k : Nat) (a0 : ByteArray) (r : ByteArray) (w : World) (h : annuitantref36_End.f k a0 = some r) :
  Calls Tryz.prog 11 #[.string a0] w fun e w' => e = .returned (.string r) ∧ Drawn0 w w' := by
 have H : (annuitantref36_End.l0 k a0 0 0 0) = some r := h; clear h; have H' := Aside0.mk H; clear H
 go_enter Tryz.func11, Tryz.ntmps11
 go_wp2
 go_loopg [3, 4, 5] k (fun kq v3 v4 v5 w' => ∃ (x3_1 : Int) (x4_1 : Int) (x5_1 : Int), v3 = .int .i64 x3_1 ∧ v4 = .int .i64 x4_1 ∧ v5 = .int .i64 x5_1 ∧ Aside0 (annuitantref36_End.l0 kq a0 x3_1 x4_1 x5_1 = some r) ∧ Aside0 (kq ≤ k) ∧ Drawn0 w w')
 case atStart => exact ⟨(0), (0), (0), (by first | rfl | (simp; done) | (simp [*]; done)), (by first | rfl | (simp; done) | (simp [*]; done)), (by first | rfl | (simp; done) | (simp [*]; done)), H', ⟨Nat.le_refl _⟩, by repeat (first | exact Drawn0.refl _ | apply Drawn0.step)⟩
 case round =>
  clear H'
  try clear c1
  obtain ⟨x3_1, x4_1, x5_1, rfl, rfl, rfl, HA, HK1, ⟨m1, rfl⟩⟩ := hrel
  cases gk with
  | zero => exact absurd HA.out (by simp [annuitantref36_End.l0])
  | succ k1 =>
   have H := HA.out; clear HA
   simp only [annuitantref36_End.l0] at H
   by_cases c2 : x5_1 < (a0.size : Int)
   ·
    rw [if_pos c2] at H
    have c2b0 : decide (x5_1 < (a0.size : Int)) = true := decide_eq_true c2; clear c2
    by_cases c3 : 0 ≤ x5_1
    ·
     rw [if_pos c3] at H
     have c3b0 : decide (0 ≤ x5_1) = true := decide_eq_true c3; clear c3; have H' := Aside0.mk H; clear H; have p4 : 0 ≤ (x5_1 : Int) := zD; have q4 : x5_1 < (a0.size : Int) := zD; have hx4 := bt_at a0 x5_1; replace p4 := eq_true p4; replace q4 := eq_true q4; have p5 : 0 ≤ (x5_1 : Int) := zD; have q5 : x5_1 < (a0.size : Int) := zD; have hx5 := bt_at a0 x5_1; replace p5 := eq_true p5; replace q5 := eq_true q5
     go_wp2
     go_roundg k1
     case measure => have := HK1.out; omega
     case rel => exact ⟨(Int.tmod (wrap64 (x3_1 + (wrap64 (bt a0 x5_1)))) 4294967296), (Int.tmod (wrap64 (x4_1 + (wrap64 ((wrap64 (x5_1 + 1)) * (wrap64 (bt a0 x5_1)))))) 4294967296), (wrap64 (x5_1 + 1)), (by first | rfl | (simp; done) | (simp [*]; done)), (by first | rfl | (simp; done) | (simp [*]; done)), (by first | rfl | (simp; done) | (simp [*]; done)), H', ⟨by have := HK1.out; omega⟩, by repeat (first | exact Drawn0.refl _ | apply Drawn0.step)⟩
    ·
     rw [if_neg c3] at H
     exact absurd H (by simp)
   ·
    rw [if_neg c2] at H
    have c2b0 : decide (x5_1 < (a0.size : Int)) = false := decide_eq_false c2; clear c2; replace H := Option.bind_eq_some_iff.mp H; obtain ⟨t221, A60, H⟩ := H; replace H : (if 4 + t221.size ≤ 9223372036854775807 then (if 4 + t221.size + 1 ≤ 9223372036854775807 then ((annuitantref36_hex.f k1 x4_1).bind fun t222 => (if 4 + t221.size + 1 + t222.size ≤ 9223372036854775807 then (if 4 + t221.size + 1 + t222.size + 1 ≤ 9223372036854775807 then (some (((((⟨#[69, 78, 68, 32]⟩ : ByteArray) ++ t221) ++ (⟨#[32]⟩ : ByteArray)) ++ t222) ++ (⟨#[10]⟩ : ByteArray))) else (none)) else (none))) else (none)) else (none)) = some r := H; have A6 := Aside0.mk A60; clear A60
    by_cases c7 : 4 + t221.size ≤ 9223372036854775807
    ·
     rw [if_pos c7] at H
     have c7b0 := eq_true c7; have c7b1 : decide (4 + t221.size ≤ 9223372036854775807) = true := decide_eq_true c7
     try have c7b2 : (9223372036854775807 < 4 + t221.size) = False := eq_false (Nat.not_lt.2 c7)
     by_cases c8 : 4 + t221.size + 1 ≤ 9223372036854775807
     ·
      rw [if_pos c8] at H
      have c8b0 := eq_true c8; have c8b1 : decide (4 + t221.size + 1 ≤ 9223372036854775807) = true := decide_eq_true c8
      try have c8b2 : (9223372036854775807 < 4 + t221.size + 1) = False := eq_false (Nat.not_lt.2 c8)
      replace H := Option.bind_eq_some_iff.mp H; obtain ⟨t222, A90, H⟩ := H; replace H : (if 4 + t221.size + 1 + t222.size ≤ 9223372036854775807 then (if 4 + t221.size + 1 + t222.size + 1 ≤ 9223372036854775807 then (some (((((⟨#[69, 78, 68, 32]⟩ : ByteArray) ++ t221) ++ (⟨#[32]⟩ : ByteArray)) ++ t222) ++ (⟨#[10]⟩ : ByteArray))) else (none)) else (none)) = some r := H; have A9 := Aside0.mk A90; clear A90
      by_cases c10 : 4 + t221.size + 1 + t222.size ≤ 9223372036854775807
      ·
       rw [if_pos c10] at H
       have c10b0 := eq_true c10; have c10b1 : decide (4 + t221.size + 1 + t222.size ≤ 9223372036854775807) = true := decide_eq_true c10
       try have c10b2 : (9223372036854775807 < 4 + t221.size + 1 + t222.size) = False := eq_false (Nat.not_lt.2 c10)
       by_cases c11 : 4 + t221.size + 1 + t222.size + 1 ≤ 9223372036854775807
       ·
        rw [if_pos c11] at H
        have c11b0 := eq_true c11; have c11b1 : decide (4 + t221.size + 1 + t222.size + 1 ≤ 9223372036854775807) = true := decide_eq_true c11
        try have c11b2 : (9223372036854775807 < 4 + t221.size + 1 + t222.size + 1) = False := eq_false (Nat.not_lt.2 c11)
        obtain rfl := Option.some.inj H
        go_wp2_with (first | ((with_reducible refine gate_callee (f := 34) rfl ?_); refine goesL_ (some 30) rfl rfl Tryz.func34 (by kernel_rfl) rfl #[.int .i64 x3_1] rfl (by (try simp only [List.map_toArray, List.map_cons, List.map_nil]); try rfl) ?_; (with_reducible refine (annuitantref36_hex.calls k1 x3_1 t221 _ A6.out).mono ?_); rintro e w' ⟨rfl, ⟨nd, rfl⟩⟩; refine ⟨_, rfl, ?_⟩) | ((with_reducible refine gate_callee (f := 34) rfl ?_); refine goesL_ (some 34) rfl rfl Tryz.func34 (by kernel_rfl) rfl #[.int .i64 x4_1] rfl (by (try simp only [List.map_toArray, List.map_cons, List.map_nil]); try rfl) ?_; (with_reducible refine (annuitantref36_hex.calls k1 x4_1 t222 _ A9.out).mono ?_); rintro e w' ⟨rfl, ⟨nd, rfl⟩⟩; refine ⟨_, rfl, ?_⟩))
        go_ret
        exact ⟨by first | rfl | (simp; done) | (simp [*]; done), by repeat (first | exact Drawn0.refl _ | apply Drawn0.step)⟩
       ·
        rw [if_neg c11] at H
        exact absurd H (by simp)
      ·
       rw [if_neg c10] at H
       exact absurd H (by simp)
     ·
      rw [if_neg c8] at H
      exact absurd H (by simp)
    ·
     rw [if_neg c7] at H
     exact absurd H (by simp)
end Go.Proofs.YtndojpcjhkncgaaGreatDoor.Q
end

section
namespace Go.Proofs.YtndojpcjhkncgaaGreatDoor.Q
open Go.RowKit Go.Proofs.YtndojpcjhkncgaaGreatDoorW.PrintWords Go.Proofs.YtndojpcjhkncgaaGreatDoorW.PrintLast Go.Proofs.YtndojpcjhkncgaaGreatDoorW.PrintMore
attribute [local go_sem] max2_int min2_int max_two min_two max_three min_three max_four min_four   -- for this text's walks alone
set_option linter.unusedVariables false
set_option linter.unusedSimpArgs false
mutual
def annuitantref36_decimal.l0 : Nat → Int → ByteArray → Option (ByteArray)
 | 0, _, _ => none
 | k + 1, x0, x3 => if x0 > 9 then ((some (([(wrap64 (48 + (Int.tmod (wrap64 (Int.tdiv x0 10)) 10))) % 256] : List Int) : List Int)).bind fun y231 => (if (strOfNums y231).size + x3.size ≤ 9223372036854775807 then (annuitantref36_decimal.l0 k (wrap64 (Int.tdiv x0 10)) ((strOfNums y231) ++ x3)) else (none))) else (some x3)
def annuitantref36_decimal.f : Nat → Int → Option (ByteArray)
 | 0, _ => none
 | k + 1, a0 => if a0 < 0 then ((annuitantref36_decimal.f k (wrap64 (-a0))).bind fun t227 => (if 1 + t227.size ≤ 9223372036854775807 then (some ((⟨#[45]⟩ : ByteArray) ++ t227)) else (none))) else (annuitantref36_decimal.l0 k a0 (strOfNums (([(wrap64 (48 + (Int.tmod a0 10))) % 256] : List Int))))
end
set_option maxHeartbeats 8000000 in
set_option maxRecDepth 100000 in
theorem annuitantref36_decimal.calls (k : Nat) : ∀ (a0 : Int) (r : ByteArray) (w : World) (h : annuitantref36_decimal.f k a0 = some r),
  Calls Tryz.prog 58 #[.int .i64 a0] w fun e w' => e = .returned (.string r) ∧ Below w.heap.size w w' := by
 induction k using Nat.strongRecOn with
 | _ k ih =>
 intro a0 r w h
 cases k with
 | zero => exact absurd h (by simp [annuitantref36_decimal.f])
 | succ k =>
 simp only [annuitantref36_decimal.f] at h
 have HB := Aside0.mk (Below.refl w.heap.size w); have H : (if a0 < 0 then ((annuitantref36_decimal.f k (wrap64 (-a0))).bind fun t227 => (if 1 + t227.size ≤ 9223372036854775807 then (some ((⟨#[45]⟩ : ByteArray) ++ t227)) else (none))) else (annuitantref36_decimal.l0 k a0 (strOfNums (([(wrap64 (48 + (Int.tmod a0 10))) % 256] : List Int))))) = some r := h; clear h
 by_cases c2 : a0 < 0
 ·
  rw [if_pos c2] at H
  have c2b0 : decide (a0 < 0) = true := decide_eq_true c2; clear c2; replace H := Option.bind_eq_some_iff.mp H; obtain ⟨t227, A30, H⟩ := H; replace H : (if 1 + t227.size ≤ 9223372036854775807 then (some ((⟨#[45]⟩ : ByteArray) ++ t227)) else (none)) = some r := H; have A3 := Aside0.mk A30; clear A30
  by_cases c4 : 1 + t227.size ≤ 9223372036854775807
  ·
   rw [if_pos c4] at H
   have c4b0 := eq_true c4; have c4b1 : decide (1 + t227.size ≤ 9223372036854775807) = true := decide_eq_true c4
   try have c4b2 : (9223372036854775807 < 1 + t227.size) = False := eq_false (Nat.not_lt.2 c4)
   obtain rfl := Option.some.inj H
   go_enter Tryz.func58, Tryz.ntmps58
   go_wp2_with (first | ((with_reducible refine gate_callee (f := 58) rfl ?_); refine goesL_ (some 8) rfl rfl Tryz.func58 (by kernel_rfl) rfl #[.int .i64 (wrap64 (-a0))] rfl (by (try simp only [List.map_toArray, List.map_cons, List.map_nil]); try rfl) ?_; (with_reducible refine (ih k (by omega) (wrap64 (-a0)) t227 _ A3.out).mono ?_); rintro e w5 ⟨rfl, hb⟩; refine ⟨_, rfl, ?_⟩; replace HB := zBs hb; (try clear hb); (try clear hb2); (try clear hk); (try clear hi)))
   go_ret
   exact ⟨zE, zB⟩
  ·
   rw [if_neg c4] at H
   exact absurd H (by simp)
 ·
  rw [if_neg c2] at H
  have c2b0 : decide (a0 < 0) = false := decide_eq_false c2; clear c2
  obtain ⟨y228, hy228⟩ : ∃ y_ : List Int, y_ = (([(wrap64 (48 + (Int.tmod a0 10))) % 256] : List Int)) := ⟨_, rfl⟩
  replace H : (annuitantref36_decimal.l0 k a0 (strOfNums y228)) = some r := by first | (rw [hy228]; with_reducible exact H) | (have H2_ := (Option.bind_some _ _).symm.trans H; rw [hy228]; with_reducible exact H2_) | (have H2_ := (Option.bind_some _ _).symm.trans H; with_reducible exact H2_) | with_reducible exact H | (rw [hy228]; exact H) | exact H
  have Ny228 := Aside0.mk hy228; clear hy228; have H' := Aside0.mk H; clear H
  go_enter Tryz.func58, Tryz.ntmps58
  go_wp2_with (first | ((with_reducible refine gate_dst (N := 14) rfl ?_); refine Kd.R_lit (Kd.int .u8) _ 5 ?hg (N := 14) ?hd (xs := ([(wrap64 (48 + (Int.tmod a0 10))) % 256] : List Int)) (inner := [.int .u8 ((wrap64 (48 + (Int.tmod a0 10))) % 256)]) (ok := fun _ => True) (okp := fun _ => True) ?hr ?hp (fun _ hk => hk) trivial (Below.refl _ _) (Nat.le_refl _) (by simp) ?_; (case hd => rfl); (case hg => rfl); (case hr => first | (go_simp; done) | (go_simp; rfl)); (case hp => exact (Reps.one (show Kd.M (Kd.int .u8) _ _ _ ((wrap64 (48 + (Int.tmod a0 10))) % 256) [.int .u8 ((wrap64 (48 + (Int.tmod a0 10))) % 256)] from rfl) (Reps.none _ _))); intro v229 w6 ho7 hb hg_ hnew_; clear hg_ hnew_; (first | rw [← Ny228.out] at ho7 | (simp only [Int.reduceToNat] at ho7; rw [← Ny228.out] at ho7)); have HO230 := Aside0.mk (Kd.R_lower ho7 (below_size zB)); replace HB := zBs hb; clear hb ho7; have hcv8 := own_string (P := Tryz.prog) Tryz.underlying53 Tryz.underlying5 Tryz.underlying9 (Kd.own_of_R HO230.out)))
  go_loopg [0, 3] k (fun kq v0 v3 w' => ∃ (x0_1 : Int) (x3_1 : ByteArray), v0 = .int .i64 x0_1 ∧ v3 = .string x3_1 ∧ Aside0 (annuitantref36_decimal.l0 kq x0_1 x3_1 = some r) ∧ Aside0 (kq ≤ k) ∧ Aside0 (Below w.heap.size w w'))
  case atStart => exact ⟨(a0), (strOfNums y228), (by first | rfl | (simp; done) | (simp [*]; done)), (by first | rfl | (simp; done) | (simp [*]; done)), H', ⟨Nat.le_refl _⟩, ⟨zB⟩⟩
  case round =>
   clear H'
   try clear c2
   try clear c2b0
   try clear p2
   try clear c4
   try clear c4b0
   try clear c4b1
   try clear c4b2
   try clear c5
   try clear p6
   try clear hcv8
   obtain ⟨x0_1, x3_1, rfl, rfl, HA, HK1, HB⟩ := hrel
   cases gk with
   | zero => exact absurd HA.out (by simp [annuitantref36_decimal.l0])
   | succ k1 =>
    have H := HA.out; clear HA
    simp only [annuitantref36_decimal.l0] at H
    by_cases c9 : x0_1 > 9
    ·
     rw [if_pos c9] at H
     have c9b0 : decide (9 < x0_1) = true := decide_eq_true c9; clear c9
     obtain ⟨y231, hy231⟩ : ∃ y_ : List Int, y_ = (([(wrap64 (48 + (Int.tmod (wrap64 (Int.tdiv x0_1 10)) 10))) % 256] : List Int)) := ⟨_, rfl⟩
     replace H : (if (strOfNums y231).size + x3_1.size ≤ 9223372036854775807 then (annuitantref36_decimal.l0 k1 (wrap64 (Int.tdiv x0_1 10)) ((strOfNums y231) ++ x3_1)) else (none)) = some r := by first | (rw [hy231]; with_reducible exact H) | (have H2_ := (Option.bind_some _ _).symm.trans H; rw [hy231]; with_reducible exact H2_) | (have H2_ := (Option.bind_some _ _).symm.trans H; with_reducible exact H2_) | with_reducible exact H | (rw [hy231]; exact H) | exact H
     have Ny231 := Aside0.mk hy231; clear hy231
     by_cases c10 : (strOfNums y231).size + x3_1.size ≤ 9223372036854775807
     ·
      rw [if_pos c10] at H
      have c10b0 := eq_true c10; have c10b1 : decide ((strOfNums y231).size + x3_1.size ≤ 9223372036854775807) = true := decide_eq_true c10
      try have c10b2 : (9223372036854775807 < (strOfNums y231).size + x3_1.size) = False := eq_false (Nat.not_lt.2 c10)
      have H' := Aside0.mk H; clear H
      go_wp2_with (first | ((with_reducible refine gate_dst (N := 24) rfl ?_); refine Kd.R_lit (Kd.int .u8) _ 5 ?hg (N := 24) ?hd (xs := ([(wrap64 (48 + (Int.tmod (wrap64 (Int.tdiv x0_1 10)) 10))) % 256] : List Int)) (inner := [.int .u8 ((wrap64 (48 + (Int.tmod (wrap64 (Int.tdiv x0_1 10)) 10))) % 256)]) (ok := fun _ => True) (okp := fun _ => True) ?hr ?hp (fun _ hk => hk) trivial (Below.refl _ _) (Nat.le_refl _) (by simp) ?_; (case hd => rfl); (case hg => rfl); (case hr => first | (go_simp; done) | (go_simp; rfl)); (case hp => exact (Reps.one (show Kd.M (Kd.int .u8) _ _ _ ((wrap64 (48 + (Int.tmod (wrap64 (Int.tdiv x0_1 10)) 10))) % 256) [.int .u8 ((wrap64 (48 + (Int.tmod (wrap64 (Int.tdiv x0_1 10)) 10))) % 256)] from rfl) (Reps.none _ _))); intro v232 w11 ho12 hb hg_ hnew_; clear hg_ hnew_; (first | rw [← Ny231.out] at ho12 | (simp only [Int.reduceToNat] at ho12; rw [← Ny231.out] at ho12)); have HO233 := Aside0.mk (Kd.R_lower ho12 (below_size zB)); replace HB := zBs hb; clear hb ho12; have hcv13 := own_string (P := Tryz.prog) Tryz.underlying53 Tryz.underlying5 Tryz.underlying9 (Kd.own_of_R HO233.out)))
      go_roundg k1
      case measure => have := HK1.out; omega
      case rel => exact ⟨(wrap64 (Int.tdiv x0_1 10)), ((strOfNums y231) ++ x3_1), (by first | rfl | (simp; done) | (simp [*]; done)), (by first | rfl | (simp; done) | (simp [*]; done)), H', ⟨by have := HK1.out; omega⟩, ⟨zB⟩⟩
     ·
      rw [if_neg c10] at H
      exact absurd H (by simp)
    ·
     rw [if_neg c9] at H
     have c9b0 : decide (9 < x0_1) = false := decide_eq_false c9; clear c9; obtain rfl := Option.some.inj H
     go_wp2
     go_ret
     exact ⟨zE, zB⟩
end Go.Proofs.YtndojpcjhkncgaaGreatDoor.Q
end

section
namespace Go.Proofs.YtndojpcjhkncgaaGreatDoor.Q
open Go.RowKit Go.Proofs.YtndojpcjhkncgaaGreatDoorW.PrintWords Go.Proofs.YtndojpcjhkncgaaGreatDoorW.PrintLast Go.Proofs.YtndojpcjhkncgaaGreatDoorW.PrintMore
attribute [local go_sem] max2_int min2_int max_two min_two max_three min_three max_four min_four   -- for this text's walks alone
set_option linter.unusedVariables false
set_option linter.unusedSimpArgs false
def annuitantref36_line.l0 : Nat → ByteArray → List Int → Int → Option (ByteArray)
 | 0, _, _, _ => none
 | k + 1, x0, x1, x5 => if x5 < (x1.length : Int) then (if x0.size + 1 ≤ 9223372036854775807 then (if 0 ≤ x5 then ((annuitantref36_decimal.f k (rd x1 x5)).bind fun t235 => (if x0.size + 1 + t235.size ≤ 9223372036854775807 then (annuitantref36_line.l0 k ((x0 ++ (⟨#[32]⟩ : ByteArray)) ++ t235) x1 (wrap64 (x5 + 1))) else (none))) else (none)) else (none)) else (if x0.size + 1 ≤ 9223372036854775807 then (some (x0 ++ (⟨#[10]⟩ : ByteArray))) else (none))
def annuitantref36_line.f (k : Nat) (a0 : ByteArray) (l1 : List Int) : Option (ByteArray) := annuitantref36_line.l0 k a0 l1 0
set_option maxHeartbeats 8000000 in
set_option maxRecDepth 100000 in
theorem annuitantref36_line.calls (k : Nat) (a0 : ByteArray) (A1 : Option Addr) (c1 : Nat) (l1 : List Int) (r : ByteArray) (w : World) (hr1 : Kd.C (Kd.int .i64) w A1 l1.length l1) (hc1 : l1.length ≤ c1) (h : annuitantref36_line.f k a0 l1 = some r) :
  Calls Tryz.prog 36 #[.string a0, .slice A1 l1.length c1] w fun e w' => e = .returned (.string r) ∧ Below w.heap.size w w' := by
 have HR1 := Aside0.mk hr1; have HC1 := Aside0.mk hc1; clear hr1 hc1; have HB := Aside0.mk (Below.refl w.heap.size w); have H : (annuitantref36_line.l0 k a0 l1 0) = some r := h; clear h; have H' := Aside0.mk H; clear H
 go_enter Tryz.func36, Tryz.ntmps36
 go_wp2
 go_loopg [0, 5] k (fun kq v0 v5 w' => ∃ (x0_1 : ByteArray) (x5_1 : Int), v0 = .string x0_1 ∧ v5 = .int .i64 x5_1 ∧ Aside0 (annuitantref36_line.l0 kq x0_1 l1 x5_1 = some r) ∧ Aside0 (kq ≤ k) ∧ Aside0 (Below w.heap.size w w'))
 case atStart => exact ⟨(a0), (0), (by first | rfl | (simp; done) | (simp [*]; done)), (by first | rfl | (simp; done) | (simp [*]; done)), H', ⟨Nat.le_refl _⟩, ⟨zB⟩⟩
 case round =>
  clear H'
  try clear c1
  try clear p2
  obtain ⟨x0_1, x5_1, rfl, rfl, HA, HK1, HB⟩ := hrel
  cases gk with
  | zero => exact absurd HA.out (by simp [annuitantref36_line.l0])
  | succ k1 =>
   have H := HA.out; clear HA
   simp only [annuitantref36_line.l0] at H
   by_cases c3 : x5_1 < (l1.length : Int)
   ·
    rw [if_pos c3] at H
    have c3b0 : decide (x5_1 < (l1.length : Int)) = true := decide_eq_true c3; clear c3
    by_cases c4 : x0_1.size + 1 ≤ 9223372036854775807
    ·
     rw [if_pos c4] at H
     have c4b0 := eq_true c4; have c4b1 : decide (x0_1.size + 1 ≤ 9223372036854775807) = true := decide_eq_true c4
     try have c4b2 : (9223372036854775807 < x0_1.size + 1) = False := eq_false (Nat.not_lt.2 c4)
     by_cases c5 : 0 ≤ x5_1
     ·
      rw [if_pos c5] at H
      have c5b0 : decide (0 ≤ x5_1) = true := decide_eq_true c5; clear c5; replace H := Option.bind_eq_some_iff.mp H; obtain ⟨t235, A60, H⟩ := H; replace H : (if x0_1.size + 1 + t235.size ≤ 9223372036854775807 then (annuitantref36_line.l0 k1 ((x0_1 ++ (⟨#[32]⟩ : ByteArray)) ++ t235) l1 (wrap64 (x5_1 + 1))) else (none)) = some r := H; have A6 := Aside0.mk A60; clear A60
      by_cases c7 : x0_1.size + 1 + t235.size ≤ 9223372036854775807
      ·
       rw [if_pos c7] at H
       have c7b0 := eq_true c7; have c7b1 : decide (x0_1.size + 1 + t235.size ≤ 9223372036854775807) = true := decide_eq_true c7
       try have c7b2 : (9223372036854775807 < x0_1.size + 1 + t235.size) = False := eq_false (Nat.not_lt.2 c7)
       have H' := Aside0.mk H; clear H; have p234 : 0 ≤ (x5_1 : Int) := zD; have q234 : x5_1 < (l1.length : Int) := zD; obtain ⟨ad234, e234, hx234_0⟩ := Kd.at_int HR1.out x5_1 p234 q234
       cases e234
       replace hx234_0 := zL HB hx234_0; replace p234 := eq_true p234; replace q234 := eq_true q234
       go_wp2_with (first | ((with_reducible refine gate_callee (f := 58) rfl ?_); refine goesL_ (some 18) rfl rfl Tryz.func58 (by kernel_rfl) rfl #[.int .i64 (rd l1 x5_1)] rfl (by (try simp only [List.map_toArray, List.map_cons, List.map_nil]); try rfl) ?_; (with_reducible refine (annuitantref36_decimal.calls k1 (rd l1 x5_1) t235 _ A6.out).mono ?_); rintro e w8 ⟨rfl, hb⟩; refine ⟨_, rfl, ?_⟩; replace HB := zBs hb; (try clear hb); (try clear hb2); (try clear hk); (try clear hi)))
       go_roundg k1
       case measure => have := HK1.out; omega
       case rel => exact ⟨((x0_1 ++ (⟨#[32]⟩ : ByteArray)) ++ t235), (wrap64 (x5_1 + 1)), (by first | rfl | (simp; done) | (simp [*]; done)), (by first | rfl | (simp; done) | (simp [*]; done)), H', ⟨by have := HK1.out; omega⟩, ⟨zB⟩⟩
      ·
       rw [if_neg c7] at H
       exact absurd H (by simp)
     ·
      rw [if_neg c5] at H
      exact absurd H (by simp)
    ·
     rw [if_neg c4] at H
     exact absurd H (by simp)
   ·
    rw [if_neg c3] at H
    have c3b0 : decide (x5_1 < (l1.length : Int)) = false := decide_eq_false c3; clear c3
    by_cases c9 : x0_1.size + 1 ≤ 9223372036854775807
    ·
     rw [if_pos c9] at H
     have c9b0 := eq_true c9; have c9b1 : decide (x0_1.size + 1 ≤ 9223372036854775807) = true := decide_eq_true c9
     try have c9b2 : (9223372036854775807 < x0_1.size + 1) = False := eq_false (Nat.not_lt.2 c9)
     obtain rfl := Option.some.inj H
     go_wp2
     go_ret
     exact ⟨zE, zB⟩
    ·
     rw [if_neg c9] at H
     exact absurd H (by simp)
end Go.Proofs.YtndojpcjhkncgaaGreatDoor.Q
end

section
namespace Go.Proofs.YtndojpcjhkncgaaGreatDoor.Q
open Go.RowKit Go.Proofs.YtndojpcjhkncgaaGreatDoorW.PrintWords Go.Proofs.YtndojpcjhkncgaaGreatDoorW.PrintLast Go.Proofs.YtndojpcjhkncgaaGreatDoorW.PrintMore
attribute [local go_sem] max2_int min2_int max_two min_two max_three min_three max_four min_four   -- for this text's walks alone
set_option linter.unusedVariables false
set_option linter.unusedSimpArgs false
def annuitantref36_Write.l0 : Nat → ByteArray → Int → Int → Int → List (S47) → Option (ByteArray × Int)
 | 0, _, _, _, _, _ => none
 | k + 1, x4, x5, x239000, x239001, x239002 => if x5 < (x239002.length : Int) then (if 0 ≤ x5 then ((annuitantref36_line.f k (⟨#[111, 114, 100, 101, 114]⟩ : ByteArray) (([(rd_T47 x239002 x5).f0, (rd_T47 x239002 x5).f1, (rd_T47 x239002 x5).f2, (rd_T47 x239002 x5).f3, (rd_T47 x239002 x5).f4] : List Int))).bind fun t250 => (if x4.size + t250.size ≤ 9223372036854775807 then (annuitantref36_Write.l0 k (x4 ++ t250) (wrap64 (x5 + 1)) x239000 x239001 x239002) else (none))) else (none)) else ((annuitantref36_End.f k x4).bind fun t251 => (if x4.size + t251.size ≤ 9223372036854775807 then (some (x4 ++ t251, 0)) else (none)))
def annuitantref36_Write.f (k : Nat) (a0_0 : Int) (a0_1 : Int) (l0_2 : List (S47)) : Option (ByteArray × Int) := (annuitantref36_Valid.f k a0_0 a0_1 l0_2).bind fun t239 => (if t239 = true then ((annuitantref36_sum.f k a0_0 a0_1 l0_2).bind fun t240 => ((annuitantref36_line.f k (⟨#[80, 65, 89]⟩ : ByteArray) (([a0_0, a0_1, (l0_2.length : Int), t240] : List Int))).bind fun t244 => (annuitantref36_Write.l0 k t244 0 a0_0 a0_1 l0_2))) else (some ((⟨#[]⟩ : ByteArray), 2)))
def annuitantref36_Write.T3 : Bool × List (List Nat × List Nat) := (true, [([], []), ([0], [0]), ([], []), ([2], [2]), ([], []), ([4], [4]), ([5], [5]), ([], []), ([7], [7]), ([1, 3, 6, 8], [1, 3, 6, 8]), ([9, 8], [9]), ([10, 10, 0, 1, 2, 3, 4, 5, 6, 7, 8, 9, 10], [10])])
def annuitantref36_Write.B3 : List Nat := [0, 1, 0, 4, 0, 16, 48, 0, 128, 511, 1023, 2047]
theorem annuitantref36_Write.tab3 : rtab .any (opsOf Tryz.f13 3) = annuitantref36_Write.T3 := by kernel_rfl
theorem annuitantref36_Write.bits3 : waitsOk annuitantref36_Write.T3.2 annuitantref36_Write.B3 = true := by kernel_rfl
abbrev zboy := true
abbrev zbon := false
abbrev zboz0 : Array Bool := #[zbon,zbon,zbon,zbon,zbon,zbon,zbon,zbon,zbon,zbon,zbon,zbon]
abbrev zboz1 : Array Bool := #[zboy,zbon,zbon,zbon,zbon,zbon,zbon,zbon,zbon,zbon,zbon,zbon]
abbrev zboz2 : Array Bool := #[zboy,zbon,zboy,zbon,zbon,zbon,zbon,zbon,zbon,zbon,zbon,zbon]
abbrev zboz3 : Array Bool := #[zboy,zbon,zboy,zbon,zboy,zbon,zbon,zbon,zbon,zbon,zbon,zbon]
abbrev zboz4 : Array Bool := #[zboy,zboy,zboy,zbon,zboy,zbon,zbon,zbon,zbon,zbon,zbon,zbon]
abbrev zboz5 : Array Bool := #[zboy,zboy,zboy,zboy,zboy,zbon,zbon,zbon,zbon,zbon,zbon,zbon]
abbrev zboz6 : Array Bool := #[zboy,zboy,zboy,zboy,zboy,zboy,zbon,zbon,zbon,zbon,zbon,zbon]
abbrev zboz7 : Array Bool := #[zboy,zboy,zboy,zboy,zboy,zboy,zboy,zbon,zbon,zbon,zbon,zbon]
abbrev zboz8 : Array Bool := #[zboy,zboy,zboy,zboy,zboy,zboy,zboy,zboy,zbon,zbon,zbon,zbon]
abbrev zboz9 : Array Bool := #[zboy,zboy,zboy,zboy,zboy,zboy,zboy,zboy,zboy,zbon,zbon,zbon]
abbrev zboz10 : Array Bool := #[zboy,zboy,zboy,zboy,zboy,zboy,zboy,zboy,zboy,zboy,zbon,zbon]
abbrev zboz11 : Array Bool := #[zboy,zboy,zboy,zboy,zboy,zboy,zboy,zboy,zboy,zboy,zboy,zbon]
abbrev zboz12 : Array Bool := #[zboy,zboy,zboy,zboy,zboy,zboy,zboy,zboy,zboy,zboy,zboy,zboy]
theorem zboq {α β γ : Type _} {A : α → β → γ → Prop} : ∀ a b c, A a b c → A a b c := fun _ _ _ h => h
theorem zbop {P : Program} {md : Region.Mode} {ops : Array Oper} {Q : Exit → Act → World → Prop} {S : World → Prop} {ds : List Nat} {oi : Oper} {fuel : Nat} {l : Array Bool} {a : Act} {w : World} {v : Value} {a' : Act} (i : Nat) (N : Option Tmp) (l' : Array Bool) (hi : ops[i]? = some oi) (hN : oi.dst = N) (hc : anyB md ops l l' i = true)
    (hQ : ∀ c a w, Q (.panic c) (a.put oi.dst v) w → Q (.panic c) a w) (hy : Yields P ops oi v a) (ha : a.put N v = a')
    (h : wpAnyLast P md ops Q S ds fuel l' a' w) : wpAnyLast P md ops Q S ds (fuel + 1) l a w := pure_ (i := i) (N := N) (v := v) (a' := a') l' hi hN hc hQ hy ha h
theorem zbo1 {α : Type _} {l : List α} {i : Nat} {a : α} : l.toArray.setIfInBounds i a = (l.set i a).toArray := by simp
theorem zbo2 {α : Type _} {x : α} {xs : List α} {a : α} : (x :: xs).set 0 a = a :: xs := rfl
theorem zbo3 {α : Type _} {x : α} {xs : List α} {n : Nat} {a : α} : (x :: xs).set (n + 1) a = x :: xs.set n a := rfl
set_option maxHeartbeats 8000000 in
set_option maxRecDepth 100000 in
theorem annuitantref36_Write.calls (k : Nat) (a0_0 : Int) (a0_1 : Int) (A0_2 : Option Addr) (c0_2 : Nat) (l0_2 : List (S47)) (r1 : ByteArray) (r2 : Int) (w : World) (hr0_2 : Kd.C k47 w A0_2 l0_2.length l0_2) (hc0_2 : l0_2.length ≤ c0_2) (h : annuitantref36_Write.f k a0_0 a0_1 l0_2 = some (r1, r2)) :
  Calls Tryz.prog 13 #[.agg #[.int .i64 a0_0, .int .i64 a0_1, .slice A0_2 l0_2.length c0_2]] w fun e w' => e = .returned (.tuple #[.string r1, .int .i64 r2]) ∧ Below w.heap.size w w' := by
 have hu36 := Tryz.underlying36; have hu47 := Tryz.underlying47; have HR0_2 := Aside0.mk hr0_2; have HC0_2 := Aside0.mk hc0_2; clear hr0_2 hc0_2; have HB := Aside0.mk (Below.refl w.heap.size w); have H : ((annuitantref36_Valid.f k a0_0 a0_1 l0_2).bind fun t239 => (if t239 = true then ((annuitantref36_sum.f k a0_0 a0_1 l0_2).bind fun t240 => ((annuitantref36_line.f k (⟨#[80, 65, 89]⟩ : ByteArray) (([a0_0, a0_1, (l0_2.length : Int), t240] : List Int))).bind fun t244 => (annuitantref36_Write.l0 k t244 0 a0_0 a0_1 l0_2))) else (some ((⟨#[]⟩ : ByteArray), 2)))) = some (r1, r2) := h; clear h; replace H := Option.bind_eq_some_iff.mp H; obtain ⟨t239, A20, H⟩ := H; replace H : (if t239 = true then ((annuitantref36_sum.f k a0_0 a0_1 l0_2).bind fun t240 => ((annuitantref36_line.f k (⟨#[80, 65, 89]⟩ : ByteArray) (([a0_0, a0_1, (l0_2.length : Int), t240] : List Int))).bind fun t244 => (annuitantref36_Write.l0 k t244 0 a0_0 a0_1 l0_2))) else (some ((⟨#[]⟩ : ByteArray), 2))) = some (r1, r2) := H; have A2 := Aside0.mk A20; clear A20
 by_cases c3 : t239 = true
 ·
  subst c3
  have H1 : ((annuitantref36_sum.f k a0_0 a0_1 l0_2).bind fun t240 => ((annuitantref36_line.f k (⟨#[80, 65, 89]⟩ : ByteArray) (([a0_0, a0_1, (l0_2.length : Int), t240] : List Int))).bind fun t244 => (annuitantref36_Write.l0 k t244 0 a0_0 a0_1 l0_2))) = some (r1, r2) := by rw [if_pos rfl] at H; exact H
  clear H; have H := H1; clear H1; replace H := Option.bind_eq_some_iff.mp H; obtain ⟨t240, A40, H⟩ := H; replace H : ((annuitantref36_line.f k (⟨#[80, 65, 89]⟩ : ByteArray) (([a0_0, a0_1, (l0_2.length : Int), t240] : List Int))).bind fun t244 => (annuitantref36_Write.l0 k t244 0 a0_0 a0_1 l0_2)) = some (r1, r2) := H; have A4 := Aside0.mk A40; clear A40
  obtain ⟨y241, hy241⟩ : ∃ y_ : List Int, y_ = (([a0_0, a0_1, (l0_2.length : Int), t240] : List Int)) := ⟨_, rfl⟩
  replace H : ((annuitantref36_line.f k (⟨#[80, 65, 89]⟩ : ByteArray) y241).bind fun t244 => (annuitantref36_Write.l0 k t244 0 a0_0 a0_1 l0_2)) = some (r1, r2) := by first | (rw [hy241]; with_reducible exact H) | (have H2_ := (Option.bind_some _ _).symm.trans H; rw [hy241]; with_reducible exact H2_) | (have H2_ := (Option.bind_some _ _).symm.trans H; with_reducible exact H2_) | with_reducible exact H | (rw [hy241]; exact H) | exact H
  have Ny241 := Aside0.mk hy241; clear hy241; replace H := Option.bind_eq_some_iff.mp H; obtain ⟨t244, A50, H⟩ := H; replace H : (annuitantref36_Write.l0 k t244 0 a0_0 a0_1 l0_2) = some (r1, r2) := H; have A5 := Aside0.mk A50; clear A50; have H' := Aside0.mk H; clear H
  go_enter Tryz.func13, Tryz.ntmps13
  try go_wp2_with (first | ((with_reducible refine gate_dst (N := 1) rfl ?_); refine box_event ?hg (N := 1) ?hd (cs := #[.int .i64 a0_0, .int .i64 a0_1, .slice A0_2 l0_2.length c0_2]) (t := 36) ?hr ?_; (case hd => rfl); (case hg => rfl); (case hr => first | (go_simp; done) | (go_simp; rfl)); intro gb238 hg w6 hbox hb; have BK238 := Aside0.mk (hbox); have GW238 := zG (w := w) hg; have GE238 := zG (w := w) hg; replace HB := zBs hb; clear hb hbox hg; obtain ⟨hcz7_0, hcz7_1, hcz7_2⟩ := zC3 BK238; obtain ⟨hfz7_0, hfz7_1, hfz7_2⟩ := zZ3 BK238) | ((with_reducible refine gate_callee (f := 35) rfl ?_); refine goesL_ (some 8) rfl rfl Tryz.func35 (by kernel_rfl) rfl #[.agg #[.int .i64 a0_0, .int .i64 a0_1, .slice A0_2 l0_2.length c0_2]] rfl (by (try simp only [List.map_toArray, List.map_cons, List.map_nil]); try rfl) ?_; (with_reducible refine (annuitantref36_Valid.calls k a0_0 a0_1 _ _ l0_2 true _ ?side1 ?side2 A2.out).mono ?_); (case side1 => repeat (first | exact (Kd.C_below HR0_2.out HB.out) | (with_reducible refine Kd.C_alloc ?_ _) | (with_reducible refine Kd.C_drewN ?_ _) | (with_reducible refine Kd.C_drew ?_))); (case side2 => exact HC0_2.out); rintro e w8 ⟨rfl, hb⟩; refine ⟨_, rfl, ?_⟩; replace BK238 := zKb BK238 hb; replace HB := zBs hb; (try clear hb); (try clear hb2); (try clear hk); (try clear hi)))
  replace BK238 := Aside0.mk (blk_drew BK238.out); replace HB := Aside0.mk (below_drew1 HB.out); 
  refine start_ (n := 12) (S := fun w' => w'.cell? ⟨gb238, 0, none⟩ = some (.int .i64 a0_0) ∧ w'.cell? ⟨gb238, 1, none⟩ = some (.int .i64 a0_1) ∧ w'.cell? ⟨gb238, 2, none⟩ = some (.slice A0_2 l0_2.length c0_2)) (ds := []) zboz0 (by kernel_rfl) rfl rfl ⟨(blk_cell BK238.out 0).trans rfl, (blk_cell BK238.out 1).trans rfl, (blk_cell BK238.out 2).trans rfl⟩ (fun hHeld => ?_); refine with_tabW annuitantref36_Write.tab3 annuitantref36_Write.bits3 (fun HT_ HW_ => ?_)
  generalize w8.drew = w9 at BK238 HB hHeld ⊢
  refine zbop 0 (some 10) zboz1 rfl rfl (any_of HT_.out (by kernel_rfl)) zboq (Or.inl ⟨by rfl, by intro w'; go_simp; with_reducible rfl⟩) (by simp only [Act.put, zbo1, zbo2, zbo3, i64_w, i32_w]; rfl) ?_
  refine zbop 2 (some 12) zboz2 rfl rfl (any_of HT_.out (by kernel_rfl)) zboq (Or.inl ⟨by rfl, by intro w'; go_simp; with_reducible rfl⟩) (by simp only [Act.put, zbo1, zbo2, zbo3, i64_w, i32_w]; rfl) ?_
  refine zbop 4 (some 14) zboz3 rfl rfl (any_of HT_.out (by kernel_rfl)) zboq (Or.inl ⟨by rfl, by intro w'; go_simp; with_reducible rfl⟩) (by simp only [Act.put, zbo1, zbo2, zbo3, i64_w, i32_w]; rfl) ?_
  refine take_ (i := 1) (N := some 11) (v := ?_) (a' := ?_) zboz4 rfl rfl (take_ofW HT_.out HW_.out (by kernel_rfl)) (fun _ _ _ h => h) (Or.inl ⟨by rfl, ?_⟩) hHeld ?_ ?_
  rotate_left
  ·
   rintro w' ⟨s0, s1, s2⟩
   go_simp
   with_reducible rfl
  rotate_left
  · simp only [Act.put, zbo1, zbo2, zbo3, i64_w, i32_w]; rfl
  refine take_ (i := 3) (N := some 13) (v := ?_) (a' := ?_) zboz5 rfl rfl (take_ofW HT_.out HW_.out (by kernel_rfl)) (fun _ _ _ h => h) (Or.inl ⟨by rfl, ?_⟩) hHeld ?_ ?_
  rotate_left
  ·
   rintro w' ⟨s0, s1, s2⟩
   go_simp
   with_reducible rfl
  rotate_left
  · simp only [Act.put, zbo1, zbo2, zbo3, i64_w, i32_w]; rfl
  refine take_ (i := 5) (N := some 15) (v := ?_) (a' := ?_) zboz6 rfl rfl (take_ofW HT_.out HW_.out (by kernel_rfl)) (fun _ _ _ h => h) (Or.inl ⟨by rfl, ?_⟩) hHeld ?_ ?_
  rotate_left
  ·
   rintro w' ⟨s0, s1, s2⟩
   go_simp
   with_reducible rfl
  rotate_left
  · simp only [Act.put, zbo1, zbo2, zbo3, i64_w, i32_w]; rfl
  refine zbop 6 (some 16) zboz7 rfl rfl (any_of HT_.out (by kernel_rfl)) zboq (Or.inl ⟨by rfl, by intro w'; go_simp; with_reducible rfl⟩) (by simp only [Act.put, zbo1, zbo2, zbo3, i64_w, i32_w]; rfl) ?_
  refine take_ (i := 7) (N := some 17) (v := ?_) (a' := ?_) zboz8 rfl rfl (take_ofW HT_.out HW_.out (by kernel_rfl)) (fun _ _ _ h => h) (Or.inl ⟨by rfl, ?_⟩) hHeld ?_ ?_
  rotate_left
  ·
   rintro w' ⟨s0, s1, s2⟩
   go_simp
   with_reducible rfl
  rotate_left
  · simp only [Act.put, zbo1, zbo2, zbo3, i64_w, i32_w]; rfl
  refine one_ (i := 8) (N := some 18) zboz9 rfl rfl (one_of HT_.out (by kernel_rfl)) (by decide) (fun K hK => ?_)
  refine goes_ Tryz.func37 (by kernel_rfl) rfl #[.agg #[.int .i64 a0_0, .int .i64 a0_1, .slice A0_2 l0_2.length c0_2]] (by rfl) rfl rfl (by (try simp only [List.map_toArray, List.map_cons, List.map_nil]); try rfl) ?_
  with_reducible refine (annuitantref36_sum.calls k a0_0 a0_1 _ _ l0_2 t240 _ ?side1 ?side2 A4.out).mono ?_
  (case side1 => repeat (first | exact (Kd.C_below HR0_2.out HB.out) | (with_reducible refine Kd.C_alloc ?_ _) | (with_reducible refine Kd.C_drewN ?_ _) | (with_reducible refine Kd.C_drew ?_)))
  (case side2 => exact HC0_2.out)
  rintro e w10 ⟨rfl, hb⟩
  refine ⟨_, rfl, ?_⟩
  have n0_ := zKb BK238 hb
  have n1_ := zBs hb; clear BK238; clear HB; have BK238 := n0_; have HB := n1_; clear n0_ n1_
  (try clear hb)
  (try clear hb2)
  (try clear hk)
  (try clear hi)
  refine hK.out _ _ ⟨(blk_cell BK238.out 0).trans rfl, (blk_cell BK238.out 1).trans rfl, (blk_cell BK238.out 2).trans rfl⟩ (fun hHeld => ?_)
  clear hK K
  refine norm_ (a' := ?_) ?_ ?_
  rotate_left
  ·
   show Act.put _ (some 18) _ = _
   simp only [Act.put, zbo1, zbo2, zbo3, i64_w, i32_w]
   rfl
  refine one_ (i := 9) (N := some 19) zboz10 rfl rfl (one_of HT_.out (by kernel_rfl)) (by decide) (fun K hK => ?_)
  refine Kd.R_lit_step (Kd.int .i64) _ 3 ?hg (N := 19) ?hd (xs := ([a0_0, a0_1, (l0_2.length : Int), t240] : List Int)) (inner := [.int .i64 a0_0, .int .i64 a0_1, .int .i64 (l0_2.length : Int), .int .i64 t240]) (ok := fun _ => True) (okp := fun _ => True) ?hr ?hp (fun _ hk => hk) trivial (Below.refl _ _) (Nat.le_refl _) (by simp) ?_; (case hd => rfl); (case hg => rfl); (case hr => first | (go_simp; done) | (go_simp; rfl)); (case hp => exact (Reps.one (show Kd.M (Kd.int .i64) _ _ _ a0_0 [.int .i64 a0_0] from rfl) (Reps.one (show Kd.M (Kd.int .i64) _ _ _ a0_1 [.int .i64 a0_1] from rfl) (Reps.one (show Kd.M (Kd.int .i64) _ _ _ (l0_2.length : Int) [.int .i64 (l0_2.length : Int)] from rfl) (Reps.one (show Kd.M (Kd.int .i64) _ _ _ t240 [.int .i64 t240] from rfl) (Reps.none _ _))))))
  intro v242 w11 ho12 hb hg_ hnew_; clear hg_ hnew_
  (first | rw [← Ny241.out] at ho12 | (simp only [Int.reduceToNat] at ho12; rw [← Ny241.out] at ho12))
  have n0_ := Aside0.mk (Kd.R_lower ho12 (below_size zB)); have n1_ := zKb BK238 hb
  have n2_ := zBs hb; clear BK238; clear HB; have HO243 := n0_; have BK238 := n1_; have HB := n2_; clear n0_ n1_ n2_; clear hb ho12; obtain ⟨Ao13, co13, eo13⟩ := Kd.R_slice HO243.out
  (first | subst eo13 | (injection eo13 with f1_ f2_ f3_; have f4_ := f1_.symm; have f5_ := f3_.symm; clear f1_ f2_ f3_; subst f4_; subst f5_))
  refine hK.out _ _ ⟨(blk_cell BK238.out 0).trans rfl, (blk_cell BK238.out 1).trans rfl, (blk_cell BK238.out 2).trans rfl⟩ (fun hHeld => ?_)
  clear hK K
  refine norm_ (a' := ?_) ?_ ?_
  rotate_left
  ·
   show Act.put _ (some 19) _ = _
   simp only [Act.put, zbo1, zbo2, zbo3, i64_w, i32_w]
   rfl
  refine one_ (i := 10) (N := some 20) zboz11 rfl rfl (one_of HT_.out (by kernel_rfl)) (by decide) (fun K hK => ?_)
  refine goes_ Tryz.func36 (by kernel_rfl) rfl #[.string (⟨#[80, 65, 89]⟩ : ByteArray), .slice Ao13 y241.length co13] (by rfl) rfl rfl (by (try simp only [List.map_toArray, List.map_cons, List.map_nil]); try rfl) ?_
  with_reducible refine (annuitantref36_line.calls k (⟨#[80, 65, 89]⟩ : ByteArray) _ _ y241 t244 _ ?side1 ?side2 A5.out).mono ?_
  (case side1 => repeat (first | exact (Kd.R_reads' HO243.out).2.2 | (with_reducible refine Kd.C_alloc ?_ _) | (with_reducible refine Kd.C_drewN ?_ _) | (with_reducible refine Kd.C_drew ?_)))
  (case side2 => exact (Kd.R_reads' HO243.out).2.1)
  rintro e w14 ⟨rfl, hb⟩
  refine ⟨_, rfl, ?_⟩
  have n0_ := Aside0.mk (Kd.R_below (zR HO243) hb)
  have n1_ := zKb BK238 hb
  have n2_ := zBs hb; clear HO243; clear BK238; clear HB; have HO243 := n0_; have BK238 := n1_; have HB := n2_; clear n0_ n1_ n2_
  (try clear hb)
  (try clear hb2)
  (try clear hk)
  (try clear hi)
  refine hK.out _ _ ⟨(blk_cell BK238.out 0).trans rfl, (blk_cell BK238.out 1).trans rfl, (blk_cell BK238.out 2).trans rfl⟩ (fun hHeld => ?_)
  clear hK K
  refine norm_ (a' := ?_) ?_ ?_
  rotate_left
  ·
   show Act.put _ (some 20) _ = _
   simp only [Act.put, zbo1, zbo2, zbo3, i64_w, i32_w]
   rfl
  refine zbop 11 (some 4) zboz12 rfl rfl (any_of HT_.out (by kernel_rfl)) zboq (Or.inl ⟨by rfl, by intro w'; go_simp; with_reducible rfl⟩) (by simp only [Act.put, zbo1, zbo2, zbo3, i64_w, i32_w]; rfl) ?_
  refine done_ (done_of HT_.out (by kernel_rfl)) ?_
  try go_wp2
  go_loopg [4, 5] k (fun kq v4 v5 w' => ∃ (x4_1 : ByteArray) (x5_1 : Int), v4 = .string x4_1 ∧ v5 = .int .i64 x5_1 ∧ Aside0 (annuitantref36_Write.l0 kq x4_1 x5_1 a0_0 a0_1 l0_2 = some (r1, r2)) ∧ Aside0 (kq ≤ k) ∧ Aside0 (w'.heap[gb238]? = some (.cells #[.int .i64 a0_0, .int .i64 a0_1, (.slice A0_2 l0_2.length c0_2)] 36 (0, 0))) ∧ Aside0 (Below w.heap.size w w'))
  case atStart => exact ⟨(t244), (0), (by first | rfl | (simp; done) | (simp [*]; done)), (by first | rfl | (simp; done) | (simp [*]; done)), H', ⟨Nat.le_refl _⟩, ⟨zK BK238⟩, ⟨zB⟩⟩
  case round =>
   clear H'
   try clear c1
   try clear p2
   try clear c3
   try clear c13
   try clear hcz7_0
   try clear hcz7_1
   try clear hcz7_2
   try clear hfz7_0
   try clear hfz7_1
   try clear hfz7_2
   obtain ⟨x4_1, x5_1, rfl, rfl, HA, HK1, BK238, HB⟩ := hrel
   cases gk with
   | zero => exact absurd HA.out (by simp [annuitantref36_Write.l0])
   | succ k1 =>
    have H := HA.out; clear HA
    simp only [annuitantref36_Write.l0] at H
    by_cases c15 : x5_1 < (l0_2.length : Int)
    ·
     rw [if_pos c15] at H
     have c15b0 : decide (x5_1 < (l0_2.length : Int)) = true := decide_eq_true c15; clear c15
     by_cases c16 : 0 ≤ x5_1
     ·
      rw [if_pos c16] at H
      have c16b0 : decide (0 ≤ x5_1) = true := decide_eq_true c16; clear c16
      obtain ⟨y247, hy247⟩ : ∃ y_ : List Int, y_ = (([(rd_T47 l0_2 x5_1).f0, (rd_T47 l0_2 x5_1).f1, (rd_T47 l0_2 x5_1).f2, (rd_T47 l0_2 x5_1).f3, (rd_T47 l0_2 x5_1).f4] : List Int)) := ⟨_, rfl⟩
      replace H : ((annuitantref36_line.f k1 (⟨#[111, 114, 100, 101, 114]⟩ : ByteArray) y247).bind fun t250 => (if x4_1.size + t250.size ≤ 9223372036854775807 then (annuitantref36_Write.l0 k1 (x4_1 ++ t250) (wrap64 (x5_1 + 1)) a0_0 a0_1 l0_2) else (none))) = some (r1, r2) := by first | (rw [hy247]; with_reducible exact H) | (have H2_ := (Option.bind_some _ _).symm.trans H; rw [hy247]; with_reducible exact H2_) | (have H2_ := (Option.bind_some _ _).symm.trans H; with_reducible exact H2_) | with_reducible exact H | (rw [hy247]; exact H) | exact H
      have Ny247 := Aside0.mk hy247; clear hy247; replace H := Option.bind_eq_some_iff.mp H; obtain ⟨t250, A170, H⟩ := H; replace H : (if x4_1.size + t250.size ≤ 9223372036854775807 then (annuitantref36_Write.l0 k1 (x4_1 ++ t250) (wrap64 (x5_1 + 1)) a0_0 a0_1 l0_2) else (none)) = some (r1, r2) := H; have A17 := Aside0.mk A170; clear A170
      by_cases c18 : x4_1.size + t250.size ≤ 9223372036854775807
      ·
       rw [if_pos c18] at H
       have c18b0 := eq_true c18; have c18b1 : decide (x4_1.size + t250.size ≤ 9223372036854775807) = true := decide_eq_true c18
       try have c18b2 : (9223372036854775807 < x4_1.size + t250.size) = False := eq_false (Nat.not_lt.2 c18)
       have H' := Aside0.mk H; clear H; obtain ⟨hcz19_0, hcz19_1, hcz19_2⟩ := zC3 BK238; obtain ⟨hfz19_0, hfz19_1, hfz19_2⟩ := zZ3 BK238; have p245 : 0 ≤ (x5_1 : Int) := zD; have q245 : x5_1 < (l0_2.length : Int) := zD; obtain ⟨ad245, e245, hx245_0, hx245_1, hx245_2, hx245_3, hx245_4⟩ := at_T47 HR0_2.out x5_1 p245 q245
       cases e245
       replace hx245_0 := zL HB hx245_0; replace hx245_1 := zL HB hx245_1; replace hx245_2 := zL HB hx245_2; replace hx245_3 := zL HB hx245_3; replace hx245_4 := zL HB hx245_4; replace p245 := eq_true p245; replace q245 := eq_true q245
       go_wp2_with (first | ((with_reducible refine gate_dst (N := 6) rfl ?_); refine box_event ?hg (N := 6) ?hd (cs := #[.int .i64 0, .int .i64 0, .int .i64 0, .int .i64 0, .int .i64 0]) (t := 47) ?hr ?_; (case hd => rfl); (case hg => rfl); (case hr => first | (go_simp; done) | (go_simp; rfl)); intro gb246 hg w20 hbox hb; have BK246 := Aside0.mk (hbox); have GW246 := zG (w := w) hg; have GE246 := zG (w := w) hg; replace HB := zBs hb; have NB238_246 := zN hg (zK BK238); have NB246_238 := zM hg (zK BK238); replace BK238 := zKb BK238 hb; clear hb hbox hg; have hnb21 := NB246_238.out; have hnc21 := NB238_246.out; obtain ⟨hcz22_0, hcz22_1, hcz22_2, hcz22_3, hcz22_4⟩ := zC5 BK246; obtain ⟨hfz22_0, hfz22_1, hfz22_2, hfz22_3, hfz22_4⟩ := zZ5 BK246) | ((with_reducible refine gate_dst (N := 44) rfl ?_); refine Kd.R_lit (Kd.int .i64) _ 3 ?hg (N := 44) ?hd (xs := ([(rd_T47 l0_2 x5_1).f0, (rd_T47 l0_2 x5_1).f1, (rd_T47 l0_2 x5_1).f2, (rd_T47 l0_2 x5_1).f3, (rd_T47 l0_2 x5_1).f4] : List Int)) (inner := [.int .i64 ((rd_T47 l0_2 x5_1).f0), .int .i64 ((rd_T47 l0_2 x5_1).f1), .int .i64 ((rd_T47 l0_2 x5_1).f2), .int .i64 ((rd_T47 l0_2 x5_1).f3), .int .i64 ((rd_T47 l0_2 x5_1).f4)]) (ok := fun _ => True) (okp := fun _ => True) ?hr ?hp (fun _ hk => hk) trivial (Below.refl _ _) (Nat.le_refl _) (by simp) ?_; (case hd => rfl); (case hg => rfl); (case hr => first | (go_simp; done) | (go_simp; rfl)); (case hp => exact (Reps.one (show Kd.M (Kd.int .i64) _ _ _ ((rd_T47 l0_2 x5_1).f0) [.int .i64 ((rd_T47 l0_2 x5_1).f0)] from rfl) (Reps.one (show Kd.M (Kd.int .i64) _ _ _ ((rd_T47 l0_2 x5_1).f1) [.int .i64 ((rd_T47 l0_2 x5_1).f1)] from rfl) (Reps.one (show Kd.M (Kd.int .i64) _ _ _ ((rd_T47 l0_2 x5_1).f2) [.int .i64 ((rd_T47 l0_2 x5_1).f2)] from rfl) (Reps.one (show Kd.M (Kd.int .i64) _ _ _ ((rd_T47 l0_2 x5_1).f3) [.int .i64 ((rd_T47 l0_2 x5_1).f3)] from rfl) (Reps.one (show Kd.M (Kd.int .i64) _ _ _ ((rd_T47 l0_2 x5_1).f4) [.int .i64 ((rd_T47 l0_2 x5_1).f4)] from rfl) (Reps.none _ _))))))); intro v248 w23 ho24 hb hg_ hnew_; clear hg_ hnew_; (first | rw [← Ny247.out] at ho24 | (simp only [Int.reduceToNat] at ho24; rw [← Ny247.out] at ho24)); have HO249 := Aside0.mk (Kd.R_lower ho24 (below_size zB)); replace BK238 := Aside0.mk (blk_below (zF BK238) hb); replace BK246 := Aside0.mk (blk_below (g := gb246) (o := .cells #[.int .i64 ((rd_T47 l0_2 x5_1).f0), .int .i64 ((rd_T47 l0_2 x5_1).f1), .int .i64 ((rd_T47 l0_2 x5_1).f2), .int .i64 ((rd_T47 l0_2 x5_1).f3), .int .i64 ((rd_T47 l0_2 x5_1).f4)] 47 (0, 0)) (by (with_reducible repeat (first | apply blk_drewN | apply blk_drew | apply blk_alloc)); refine blk_put (cs := #[.int .i64 ((rd_T47 l0_2 x5_1).f0), .int .i64 ((rd_T47 l0_2 x5_1).f1), .int .i64 ((rd_T47 l0_2 x5_1).f2), .int .i64 ((rd_T47 l0_2 x5_1).f3), .int .i64 0]) ?_ 4 _ rfl; (with_reducible repeat (first | apply blk_drewN | apply blk_drew | apply blk_alloc)); refine blk_put (cs := #[.int .i64 ((rd_T47 l0_2 x5_1).f0), .int .i64 ((rd_T47 l0_2 x5_1).f1), .int .i64 ((rd_T47 l0_2 x5_1).f2), .int .i64 0, .int .i64 0]) ?_ 3 _ rfl; (with_reducible repeat (first | apply blk_drewN | apply blk_drew | apply blk_alloc)); refine blk_put (cs := #[.int .i64 ((rd_T47 l0_2 x5_1).f0), .int .i64 ((rd_T47 l0_2 x5_1).f1), .int .i64 0, .int .i64 0, .int .i64 0]) ?_ 2 _ rfl; (with_reducible repeat (first | apply blk_drewN | apply blk_drew | apply blk_alloc)); refine blk_put (cs := #[.int .i64 ((rd_T47 l0_2 x5_1).f0), .int .i64 0, .int .i64 0, .int .i64 0, .int .i64 0]) ?_ 1 _ rfl; (with_reducible repeat (first | apply blk_drewN | apply blk_drew | apply blk_alloc)); refine blk_put (cs := #[.int .i64 0, .int .i64 0, .int .i64 0, .int .i64 0, .int .i64 0]) ?_ 0 _ rfl; (with_reducible repeat (first | apply blk_drewN | apply blk_drew | apply blk_alloc)); exact BK246.out) hb); replace HB := zBs hb; clear hb ho24; obtain ⟨Ao25, co25, eo25⟩ := Kd.R_slice HO249.out; subst eo25) | ((with_reducible refine gate_callee (f := 36) rfl ?_); refine goesL_ (some 45) rfl rfl Tryz.func36 (by kernel_rfl) rfl #[.string (⟨#[111, 114, 100, 101, 114]⟩ : ByteArray), .slice Ao25 y247.length co25] rfl (by (try simp only [List.map_toArray, List.map_cons, List.map_nil]); try rfl) ?_; (with_reducible refine (annuitantref36_line.calls k1 (⟨#[111, 114, 100, 101, 114]⟩ : ByteArray) _ _ y247 t250 _ ?side1 ?side2 A17.out).mono ?_); (case side1 => repeat (first | exact (Kd.R_reads' HO249.out).2.2 | (with_reducible refine Kd.C_alloc ?_ _) | (with_reducible refine Kd.C_drewN ?_ _) | (with_reducible refine Kd.C_drew ?_))); (case side2 => exact (Kd.R_reads' HO249.out).2.1); rintro e w26 ⟨rfl, hb⟩; refine ⟨_, rfl, ?_⟩; replace HO249 := Aside0.mk (Kd.R_below (zR HO249) hb); replace BK238 := zKb BK238 hb; replace BK246 := zKb BK246 hb; replace HB := zBs hb; (try clear hb); (try clear hb2); (try clear hk); (try clear hi)))
       go_roundg k1
       case measure => have := HK1.out; omega
       case rel => exact ⟨(x4_1 ++ t250), (wrap64 (x5_1 + 1)), (by first | rfl | (simp; done) | (simp [*]; done)), (by first | rfl | (simp; done) | (simp [*]; done)), H', ⟨by have := HK1.out; omega⟩, ⟨zK BK238⟩, ⟨zB⟩⟩
      ·
       rw [if_neg c18] at H
       exact absurd H (by simp)
     ·
      rw [if_neg c16] at H
      exact absurd H (by simp)
    ·
     rw [if_neg c15] at H
     have c15b0 : decide (x5_1 < (l0_2.length : Int)) = false := decide_eq_false c15; clear c15; replace H := Option.bind_eq_some_iff.mp H; obtain ⟨t251, A270, H⟩ := H; replace H : (if x4_1.size + t251.size ≤ 9223372036854775807 then (some (x4_1 ++ t251, 0)) else (none)) = some (r1, r2) := H; have A27 := Aside0.mk A270; clear A270
     by_cases c28 : x4_1.size + t251.size ≤ 9223372036854775807
     ·
      rw [if_pos c28] at H
      have c28b0 := eq_true c28; have c28b1 : decide (x4_1.size + t251.size ≤ 9223372036854775807) = true := decide_eq_true c28
      try have c28b2 : (9223372036854775807 < x4_1.size + t251.size) = False := eq_false (Nat.not_lt.2 c28)
      simp only [Option.some.injEq, Prod.mk.injEq] at H
      obtain ⟨rfl, rfl⟩ := H; obtain ⟨hcz29_0, hcz29_1, hcz29_2⟩ := zC3 BK238; obtain ⟨hfz29_0, hfz29_1, hfz29_2⟩ := zZ3 BK238
      go_wp2_with (first | ((with_reducible refine gate_callee (f := 11) rfl ?_); refine goesL_ (some 49) rfl rfl Tryz.func11 (by kernel_rfl) rfl #[.string x4_1] rfl (by (try simp only [List.map_toArray, List.map_cons, List.map_nil]); try rfl) ?_; (with_reducible refine (annuitantref36_End.calls k1 x4_1 t251 _ A27.out).mono ?_); rintro e w' ⟨rfl, ⟨nd, rfl⟩⟩; refine ⟨_, rfl, ?_⟩))
      go_ret2
      exact ⟨zE, zB⟩
     ·
      rw [if_neg c28] at H
      exact absurd H (by simp)
 ·
  replace c3 := Bool.eq_false_iff.mpr c3; subst c3
  have H1 : (some ((⟨#[]⟩ : ByteArray), 2)) = some (r1, r2) := by rw [if_neg (show ¬ (false = true) by decide)] at H; exact H
  clear H; have H := H1; clear H1
  simp only [Option.some.injEq, Prod.mk.injEq] at H
  obtain ⟨rfl, rfl⟩ := H
  go_enter Tryz.func13, Tryz.ntmps13
  go_wp2_with (first | ((with_reducible refine gate_dst (N := 1) rfl ?_); refine box_event ?hg (N := 1) ?hd (cs := #[.int .i64 a0_0, .int .i64 a0_1, .slice A0_2 l0_2.length c0_2]) (t := 36) ?hr ?_; (case hd => rfl); (case hg => rfl); (case hr => first | (go_simp; done) | (go_simp; rfl)); intro gb238 hg w30 hbox hb; have BK238 := Aside0.mk (hbox); have GW238 := zG (w := w) hg; have GE238 := zG (w := w) hg; replace HB := zBs hb; clear hb hbox hg; obtain ⟨hcz31_0, hcz31_1, hcz31_2⟩ := zC3 BK238; obtain ⟨hfz31_0, hfz31_1, hfz31_2⟩ := zZ3 BK238) | ((with_reducible refine gate_callee (f := 35) rfl ?_); refine goesL_ (some 8) rfl rfl Tryz.func35 (by kernel_rfl) rfl #[.agg #[.int .i64 a0_0, .int .i64 a0_1, .slice A0_2 l0_2.length c0_2]] rfl (by (try simp only [List.map_toArray, List.map_cons, List.map_nil]); try rfl) ?_; (with_reducible refine (annuitantref36_Valid.calls k a0_0 a0_1 _ _ l0_2 false _ ?side1 ?side2 A2.out).mono ?_); (case side1 => repeat (first | exact (Kd.C_below HR0_2.out HB.out) | (with_reducible refine Kd.C_alloc ?_ _) | (with_reducible refine Kd.C_drewN ?_ _) | (with_reducible refine Kd.C_drew ?_))); (case side2 => exact HC0_2.out); rintro e w32 ⟨rfl, hb⟩; refine ⟨_, rfl, ?_⟩; replace BK238 := zKb BK238 hb; replace HB := zBs hb; (try clear hb); (try clear hb2); (try clear hk); (try clear hi)))
  go_ret2
  exact ⟨zE, zB⟩
end Go.Proofs.YtndojpcjhkncgaaGreatDoor.Q
end

section
namespace Go.Proofs.YtndojpcjhkncgaaGreatDoor.Q
open Go.RowKit Go.Proofs.YtndojpcjhkncgaaGreatDoorW.PrintWords Go.Proofs.YtndojpcjhkncgaaGreatDoorW.PrintLast Go.Proofs.YtndojpcjhkncgaaGreatDoorW.PrintMore
attribute [local go_sem] max2_int min2_int max_two min_two max_three min_three max_four min_four   -- for this text's walks alone
set_option linter.unusedVariables false
set_option linter.unusedSimpArgs false
def annuitantref36_WriteAnswer.l0 : Nat → ByteArray → Int → Int → Int → List (S78) → Option (ByteArray × Int)
 | 0, _, _, _, _, _ => none
 | k + 1, x4, x5, x328000, x328001, x328002 => if x5 < (x328002.length : Int) then (if 0 ≤ x5 then ((annuitantref36_line.f k (⟨#[114, 101, 116, 117, 114, 110]⟩ : ByteArray) (([(rd_T78 x328002 x5).f0, (rd_T78 x328002 x5).f1] : List Int))).bind fun t338 => (if x4.size + t338.size ≤ 9223372036854775807 then (annuitantref36_WriteAnswer.l0 k (x4 ++ t338) (wrap64 (x5 + 1)) x328000 x328001 x328002) else (none))) else (none)) else ((annuitantref36_End.f k x4).bind fun t339 => (if x4.size + t339.size ≤ 9223372036854775807 then (some (x4 ++ t339, 0)) else (none)))
def annuitantref36_WriteAnswer.f (k : Nat) (a0_0 : Int) (a0_1 : Int) (l0_2 : List (S78)) : Option (ByteArray × Int) := (annuitantref36_Right.f k a0_0 a0_1 l0_2).bind fun t328 => (if t328 = true then ((annuitantref36_line.f k (⟨#[66, 65, 67, 75]⟩ : ByteArray) (([a0_0, a0_1, (l0_2.length : Int)] : List Int))).bind fun t332 => (annuitantref36_WriteAnswer.l0 k t332 0 a0_0 a0_1 l0_2)) else (some ((⟨#[]⟩ : ByteArray), 2)))
def annuitantref36_WriteAnswer.T7 : Bool × List (List Nat × List Nat) := (true, [([], []), ([], []), ([1], [1]), ([], []), ([2, 3], [2, 3]), ([4], [4]), ([5], [5]), ([], []), ([7], [7]), ([], []), ([8, 9], [8, 9]), ([10], [10]), ([11], [11]), ([6, 12], [6, 12]), ([13], [13]), ([0, 14], [0, 14]), ([15, 14, 0, 1, 2, 3, 4, 5, 6, 7, 8, 9, 10, 11, 12, 13, 14, 15], [0, 15])])
def annuitantref36_WriteAnswer.B7 : List Nat := [0, 0, 2, 0, 14, 30, 62, 0, 128, 0, 896, 1920, 3968, 8190, 16382, 32767, 65535]
theorem annuitantref36_WriteAnswer.tab7 : rtab .any (opsOf Tryz.f15 7) = annuitantref36_WriteAnswer.T7 := by kernel_rfl
theorem annuitantref36_WriteAnswer.bits7 : waitsOk annuitantref36_WriteAnswer.T7.2 annuitantref36_WriteAnswer.B7 = true := by kernel_rfl
abbrev zbpy := true
abbrev zbpn := false
abbrev zbpz0 : Array Bool := #[zbpn,zbpn,zbpn,zbpn,zbpn,zbpn,zbpn,zbpn,zbpn,zbpn,zbpn,zbpn,zbpn,zbpn,zbpn,zbpn,zbpn]
abbrev zbpz1 : Array Bool := #[zbpy,zbpn,zbpn,zbpn,zbpn,zbpn,zbpn,zbpn,zbpn,zbpn,zbpn,zbpn,zbpn,zbpn,zbpn,zbpn,zbpn]
abbrev zbpz2 : Array Bool := #[zbpy,zbpy,zbpn,zbpn,zbpn,zbpn,zbpn,zbpn,zbpn,zbpn,zbpn,zbpn,zbpn,zbpn,zbpn,zbpn,zbpn]
abbrev zbpz3 : Array Bool := #[zbpy,zbpy,zbpn,zbpy,zbpn,zbpn,zbpn,zbpn,zbpn,zbpn,zbpn,zbpn,zbpn,zbpn,zbpn,zbpn,zbpn]
abbrev zbpz4 : Array Bool := #[zbpy,zbpy,zbpn,zbpy,zbpn,zbpn,zbpn,zbpy,zbpn,zbpn,zbpn,zbpn,zbpn,zbpn,zbpn,zbpn,zbpn]
abbrev zbpz5 : Array Bool := #[zbpy,zbpy,zbpn,zbpy,zbpn,zbpn,zbpn,zbpy,zbpn,zbpy,zbpn,zbpn,zbpn,zbpn,zbpn,zbpn,zbpn]
abbrev zbpz6 : Array Bool := #[zbpy,zbpy,zbpy,zbpy,zbpn,zbpn,zbpn,zbpy,zbpn,zbpy,zbpn,zbpn,zbpn,zbpn,zbpn,zbpn,zbpn]
abbrev zbpz7 : Array Bool := #[zbpy,zbpy,zbpy,zbpy,zbpy,zbpn,zbpn,zbpy,zbpn,zbpy,zbpn,zbpn,zbpn,zbpn,zbpn,zbpn,zbpn]
abbrev zbpz8 : Array Bool := #[zbpy,zbpy,zbpy,zbpy,zbpy,zbpy,zbpn,zbpy,zbpn,zbpy,zbpn,zbpn,zbpn,zbpn,zbpn,zbpn,zbpn]
abbrev zbpz9 : Array Bool := #[zbpy,zbpy,zbpy,zbpy,zbpy,zbpy,zbpy,zbpy,zbpn,zbpy,zbpn,zbpn,zbpn,zbpn,zbpn,zbpn,zbpn]
abbrev zbpz10 : Array Bool := #[zbpy,zbpy,zbpy,zbpy,zbpy,zbpy,zbpy,zbpy,zbpy,zbpy,zbpn,zbpn,zbpn,zbpn,zbpn,zbpn,zbpn]
abbrev zbpz11 : Array Bool := #[zbpy,zbpy,zbpy,zbpy,zbpy,zbpy,zbpy,zbpy,zbpy,zbpy,zbpy,zbpn,zbpn,zbpn,zbpn,zbpn,zbpn]
abbrev zbpz12 : Array Bool := #[zbpy,zbpy,zbpy,zbpy,zbpy,zbpy,zbpy,zbpy,zbpy,zbpy,zbpy,zbpy,zbpn,zbpn,zbpn,zbpn,zbpn]
abbrev zbpz13 : Array Bool := #[zbpy,zbpy,zbpy,zbpy,zbpy,zbpy,zbpy,zbpy,zbpy,zbpy,zbpy,zbpy,zbpy,zbpn,zbpn,zbpn,zbpn]
abbrev zbpz14 : Array Bool := #[zbpy,zbpy,zbpy,zbpy,zbpy,zbpy,zbpy,zbpy,zbpy,zbpy,zbpy,zbpy,zbpy,zbpy,zbpn,zbpn,zbpn]
abbrev zbpz15 : Array Bool := #[zbpy,zbpy,zbpy,zbpy,zbpy,zbpy,zbpy,zbpy,zbpy,zbpy,zbpy,zbpy,zbpy,zbpy,zbpy,zbpn,zbpn]
abbrev zbpz16 : Array Bool := #[zbpy,zbpy,zbpy,zbpy,zbpy,zbpy,zbpy,zbpy,zbpy,zbpy,zbpy,zbpy,zbpy,zbpy,zbpy,zbpy,zbpn]
abbrev zbpz17 : Array Bool := #[zbpy,zbpy,zbpy,zbpy,zbpy,zbpy,zbpy,zbpy,zbpy,zbpy,zbpy,zbpy,zbpy,zbpy,zbpy,zbpy,zbpy]
theorem zbpq {α β γ : Type _} {A : α → β → γ → Prop} : ∀ a b c, A a b c → A a b c := fun _ _ _ h => h
theorem zbpp {P : Program} {md : Region.Mode} {ops : Array Oper} {Q : Exit → Act → World → Prop} {S : World → Prop} {ds : List Nat} {oi : Oper} {fuel : Nat} {l : Array Bool} {a : Act} {w : World} {v : Value} {a' : Act} (i : Nat) (N : Option Tmp) (l' : Array Bool) (hi : ops[i]? = some oi) (hN : oi.dst = N) (hc : anyB md ops l l' i = true)
    (hQ : ∀ c a w, Q (.panic c) (a.put oi.dst v) w → Q (.panic c) a w) (hy : Yields P ops oi v a) (ha : a.put N v = a')
    (h : wpAnyLast P md ops Q S ds fuel l' a' w) : wpAnyLast P md ops Q S ds (fuel + 1) l a w := pure_ (i := i) (N := N) (v := v) (a' := a') l' hi hN hc hQ hy ha h
theorem zbp1 {α : Type _} {l : List α} {i : Nat} {a : α} : l.toArray.setIfInBounds i a = (l.set i a).toArray := by simp
theorem zbp2 {α : Type _} {x : α} {xs : List α} {a : α} : (x :: xs).set 0 a = a :: xs := rfl
theorem zbp3 {α : Type _} {x : α} {xs : List α} {n : Nat} {a : α} : (x :: xs).set (n + 1) a = x :: xs.set n a := rfl
set_option maxHeartbeats 8000000 in
set_option maxRecDepth 100000 in
theorem annuitantref36_WriteAnswer.calls (k : Nat) (a0_0 : Int) (a0_1 : Int) (A0_2 : Option Addr) (c0_2 : Nat) (l0_2 : List (S78)) (r1 : ByteArray) (r2 : Int) (w : World) (hr0_2 : Kd.C k78 w A0_2 l0_2.length l0_2) (hc0_2 : l0_2.length ≤ c0_2) (h : annuitantref36_WriteAnswer.f k a0_0 a0_1 l0_2 = some (r1, r2)) :
  Calls Tryz.prog 15 #[.agg #[.int .i64 a0_0, .int .i64 a0_1, .slice A0_2 l0_2.length c0_2]] w fun e w' => e = .returned (.tuple #[.string r1, .int .i64 r2]) ∧ Below w.heap.size w w' := by
 have hu41 := Tryz.underlying41; have HR0_2 := Aside0.mk hr0_2; have HC0_2 := Aside0.mk hc0_2; clear hr0_2 hc0_2; have HB := Aside0.mk (Below.refl w.heap.size w); have H : ((annuitantref36_Right.f k a0_0 a0_1 l0_2).bind fun t328 => (if t328 = true then ((annuitantref36_line.f k (⟨#[66, 65, 67, 75]⟩ : ByteArray) (([a0_0, a0_1, (l0_2.length : Int)] : List Int))).bind fun t332 => (annuitantref36_WriteAnswer.l0 k t332 0 a0_0 a0_1 l0_2)) else (some ((⟨#[]⟩ : ByteArray), 2)))) = some (r1, r2) := h; clear h; replace H := Option.bind_eq_some_iff.mp H; obtain ⟨t328, A20, H⟩ := H; replace H : (if t328 = true then ((annuitantref36_line.f k (⟨#[66, 65, 67, 75]⟩ : ByteArray) (([a0_0, a0_1, (l0_2.length : Int)] : List Int))).bind fun t332 => (annuitantref36_WriteAnswer.l0 k t332 0 a0_0 a0_1 l0_2)) else (some ((⟨#[]⟩ : ByteArray), 2))) = some (r1, r2) := H; have A2 := Aside0.mk A20; clear A20
 by_cases c3 : t328 = true
 ·
  subst c3
  have H1 : ((annuitantref36_line.f k (⟨#[66, 65, 67, 75]⟩ : ByteArray) (([a0_0, a0_1, (l0_2.length : Int)] : List Int))).bind fun t332 => (annuitantref36_WriteAnswer.l0 k t332 0 a0_0 a0_1 l0_2)) = some (r1, r2) := by rw [if_pos rfl] at H; exact H
  clear H; have H := H1; clear H1
  obtain ⟨y329, hy329⟩ : ∃ y_ : List Int, y_ = (([a0_0, a0_1, (l0_2.length : Int)] : List Int)) := ⟨_, rfl⟩
  replace H : ((annuitantref36_line.f k (⟨#[66, 65, 67, 75]⟩ : ByteArray) y329).bind fun t332 => (annuitantref36_WriteAnswer.l0 k t332 0 a0_0 a0_1 l0_2)) = some (r1, r2) := by first | (rw [hy329]; with_reducible exact H) | (have H2_ := (Option.bind_some _ _).symm.trans H; rw [hy329]; with_reducible exact H2_) | (have H2_ := (Option.bind_some _ _).symm.trans H; with_reducible exact H2_) | with_reducible exact H | (rw [hy329]; exact H) | exact H
  have Ny329 := Aside0.mk hy329; clear hy329; replace H := Option.bind_eq_some_iff.mp H; obtain ⟨t332, A40, H⟩ := H; replace H : (annuitantref36_WriteAnswer.l0 k t332 0 a0_0 a0_1 l0_2) = some (r1, r2) := H; have A4 := Aside0.mk A40; clear A40; have H' := Aside0.mk H; clear H
  go_enter Tryz.func15, Tryz.ntmps15
  go_wp2_with (first | ((with_reducible refine gate_dst (N := 1) rfl ?_); refine box_event ?hg (N := 1) ?hd (cs := #[.int .i64 a0_0, .int .i64 a0_1, .slice A0_2 l0_2.length c0_2]) (t := 41) ?hr ?_; (case hd => rfl); (case hg => rfl); (case hr => first | (go_simp; done) | (go_simp; rfl)); intro gb327 hg w5 hbox hb; have BK327 := Aside0.mk (hbox); have GW327 := zG (w := w) hg; have GE327 := zG (w := w) hg; replace HB := zBs hb; clear hb hbox hg; obtain ⟨hcz6_0, hcz6_1, hcz6_2⟩ := zC3 BK327; obtain ⟨hfz6_0, hfz6_1, hfz6_2⟩ := zZ3 BK327) | ((with_reducible refine gate_callee (f := 38) rfl ?_); refine goesL_ (some 7) rfl rfl Tryz.func38 (by kernel_rfl) rfl #[.agg #[.int .i64 a0_0, .int .i64 a0_1, .slice A0_2 l0_2.length c0_2]] rfl (by (try simp only [List.map_toArray, List.map_cons, List.map_nil]); try rfl) ?_; (with_reducible refine (annuitantref36_Right.calls k a0_0 a0_1 _ _ l0_2 true _ ?side1 ?side2 A2.out).mono ?_); (case side1 => repeat (first | exact (Kd.C_below HR0_2.out HB.out) | (with_reducible refine Kd.C_alloc ?_ _) | (with_reducible refine Kd.C_drewN ?_ _) | (with_reducible refine Kd.C_drew ?_))); (case side2 => exact HC0_2.out); rintro e w7 ⟨rfl, hb⟩; refine ⟨_, rfl, ?_⟩; replace BK327 := zKb BK327 hb; replace HB := zBs hb; (try clear hb); (try clear hb2); (try clear hk); (try clear hi); obtain ⟨hcz8_0, hcz8_1, hcz8_2⟩ := zC3 BK327; obtain ⟨hfz8_0, hfz8_1, hfz8_2⟩ := zZ3 BK327) | ((with_reducible refine gate_dst (N := 16) rfl ?_); refine Kd.R_lit (Kd.int .i64) _ 3 ?hg (N := 16) ?hd (xs := ([a0_0, a0_1, (l0_2.length : Int)] : List Int)) (inner := [.int .i64 a0_0, .int .i64 a0_1, .int .i64 (l0_2.length : Int)]) (ok := fun _ => True) (okp := fun _ => True) ?hr ?hp (fun _ hk => hk) trivial (Below.refl _ _) (Nat.le_refl _) (by simp) ?_; (case hd => rfl); (case hg => rfl); (case hr => first | (go_simp; done) | (go_simp; rfl)); (case hp => exact (Reps.one (show Kd.M (Kd.int .i64) _ _ _ a0_0 [.int .i64 a0_0] from rfl) (Reps.one (show Kd.M (Kd.int .i64) _ _ _ a0_1 [.int .i64 a0_1] from rfl) (Reps.one (show Kd.M (Kd.int .i64) _ _ _ (l0_2.length : Int) [.int .i64 (l0_2.length : Int)] from rfl) (Reps.none _ _))))); intro v330 w9 ho10 hb hg_ hnew_; clear hg_ hnew_; (first | rw [← Ny329.out] at ho10 | (simp only [Int.reduceToNat] at ho10; rw [← Ny329.out] at ho10)); have HO331 := Aside0.mk (Kd.R_lower ho10 (below_size zB)); replace BK327 := zKb BK327 hb; replace HB := zBs hb; clear hb ho10; obtain ⟨Ao11, co11, eo11⟩ := Kd.R_slice HO331.out; subst eo11) | ((with_reducible refine gate_callee (f := 36) rfl ?_); refine goesL_ (some 17) rfl rfl Tryz.func36 (by kernel_rfl) rfl #[.string (⟨#[66, 65, 67, 75]⟩ : ByteArray), .slice Ao11 y329.length co11] rfl (by (try simp only [List.map_toArray, List.map_cons, List.map_nil]); try rfl) ?_; (with_reducible refine (annuitantref36_line.calls k (⟨#[66, 65, 67, 75]⟩ : ByteArray) _ _ y329 t332 _ ?side1 ?side2 A4.out).mono ?_); (case side1 => repeat (first | exact (Kd.R_reads' HO331.out).2.2 | (with_reducible refine Kd.C_alloc ?_ _) | (with_reducible refine Kd.C_drewN ?_ _) | (with_reducible refine Kd.C_drew ?_))); (case side2 => exact (Kd.R_reads' HO331.out).2.1); rintro e w12 ⟨rfl, hb⟩; refine ⟨_, rfl, ?_⟩; replace HO331 := Aside0.mk (Kd.R_below (zR HO331) hb); replace BK327 := zKb BK327 hb; replace HB := zBs hb; (try clear hb); (try clear hb2); (try clear hk); (try clear hi)))
  go_loopg [4, 5] k (fun kq v4 v5 w' => ∃ (x4_1 : ByteArray) (x5_1 : Int), v4 = .string x4_1 ∧ v5 = .int .i64 x5_1 ∧ Aside0 (annuitantref36_WriteAnswer.l0 kq x4_1 x5_1 a0_0 a0_1 l0_2 = some (r1, r2)) ∧ Aside0 (kq ≤ k) ∧ Aside0 (w'.heap[gb327]? = some (.cells #[.int .i64 a0_0, .int .i64 a0_1, (.slice A0_2 l0_2.length c0_2)] 41 (0, 0))) ∧ Aside0 (Below w.heap.size w w'))
  case atStart => exact ⟨(t332), (0), (by first | rfl | (simp; done) | (simp [*]; done)), (by first | rfl | (simp; done) | (simp [*]; done)), H', ⟨Nat.le_refl _⟩, ⟨zK BK327⟩, ⟨zB⟩⟩
  case round =>
   clear H'
   try clear c1
   try clear p2
   try clear c3
   try clear hcz6_0
   try clear hcz6_1
   try clear hcz6_2
   try clear hcz8_0
   try clear hcz8_1
   try clear hcz8_2
   try clear hfz6_0
   try clear hfz6_1
   try clear hfz6_2
   try clear hfz8_0
   try clear hfz8_1
   try clear hfz8_2
   obtain ⟨x4_1, x5_1, rfl, rfl, HA, HK1, BK327, HB⟩ := hrel
   cases gk with
   | zero => exact absurd HA.out (by simp [annuitantref36_WriteAnswer.l0])
   | succ k1 =>
    have H := HA.out; clear HA
    simp only [annuitantref36_WriteAnswer.l0] at H
    by_cases c13 : x5_1 < (l0_2.length : Int)
    ·
     rw [if_pos c13] at H
     have c13b0 : decide (x5_1 < (l0_2.length : Int)) = true := decide_eq_true c13; clear c13
     by_cases c14 : 0 ≤ x5_1
     ·
      rw [if_pos c14] at H
      have c14b0 : decide (0 ≤ x5_1) = true := decide_eq_true c14; clear c14
      obtain ⟨y335, hy335⟩ : ∃ y_ : List Int, y_ = (([(rd_T78 l0_2 x5_1).f0, (rd_T78 l0_2 x5_1).f1] : List Int)) := ⟨_, rfl⟩
      replace H : ((annuitantref36_line.f k1 (⟨#[114, 101, 116, 117, 114, 110]⟩ : ByteArray) y335).bind fun t338 => (if x4_1.size + t338.size ≤ 9223372036854775807 then (annuitantref36_WriteAnswer.l0 k1 (x4_1 ++ t338) (wrap64 (x5_1 + 1)) a0_0 a0_1 l0_2) else (none))) = some (r1, r2) := by first | (rw [hy335]; with_reducible exact H) | (have H2_ := (Option.bind_some _ _).symm.trans H; rw [hy335]; with_reducible exact H2_) | (have H2_ := (Option.bind_some _ _).symm.trans H; with_reducible exact H2_) | with_reducible exact H | (rw [hy335]; exact H) | exact H
      have Ny335 := Aside0.mk hy335; clear hy335; replace H := Option.bind_eq_some_iff.mp H; obtain ⟨t338, A150, H⟩ := H; replace H : (if x4_1.size + t338.size ≤ 9223372036854775807 then (annuitantref36_WriteAnswer.l0 k1 (x4_1 ++ t338) (wrap64 (x5_1 + 1)) a0_0 a0_1 l0_2) else (none)) = some (r1, r2) := H; have A15 := Aside0.mk A150; clear A150
      by_cases c16 : x4_1.size + t338.size ≤ 9223372036854775807
      ·
       rw [if_pos c16] at H
       have c16b0 := eq_true c16; have c16b1 : decide (x4_1.size + t338.size ≤ 9223372036854775807) = true := decide_eq_true c16
       try have c16b2 : (9223372036854775807 < x4_1.size + t338.size) = False := eq_false (Nat.not_lt.2 c16)
       have H' := Aside0.mk H; clear H; obtain ⟨hcz17_0, hcz17_1, hcz17_2⟩ := zC3 BK327; obtain ⟨hfz17_0, hfz17_1, hfz17_2⟩ := zZ3 BK327
       try go_wp2
       replace BK327 := Aside0.mk (blk_drew BK327.out); replace HB := Aside0.mk (below_drew1 HB.out); have p333 : 0 ≤ (x5_1 : Int) := zD; have q333 : x5_1 < (l0_2.length : Int) := zD; obtain ⟨ad333, e333, hx333_0, hx333_1⟩ := at_T78 HR0_2.out x5_1 p333 q333; have hw333_1 := hx333_1; have hw333_0 := hx333_0
       cases e333
       replace hx333_0 := zL HB hx333_0; replace hx333_1 := zL HB hx333_1; replace p333 := eq_true p333; replace q333 := eq_true q333; have p334 : 0 ≤ (x5_1 : Int) := zD; have q334 : x5_1 < (l0_2.length : Int) := zD; obtain ⟨ad334, e334, hx334_0, hx334_1⟩ := at_T78 HR0_2.out x5_1 p334 q334; have hw334_1 := hx334_1; have hw334_0 := hx334_0; obtain rfl : ad333 = ad334 := (by injection e334); replace hx334_0 := zL HB hx334_0; replace hx334_1 := zL HB hx334_1; replace p334 := eq_true p334; replace q334 := eq_true q334
       refine start_ (n := 17) (S := fun w' => w'.cell? ⟨gb327, 0, none⟩ = some (.int .i64 a0_0) ∧ w'.cell? ⟨gb327, 1, none⟩ = some (.int .i64 a0_1) ∧ w'.cell? ⟨gb327, 2, none⟩ = some (.slice (some ad333) l0_2.length c0_2) ∧ w'.cell? (ad333.add ((x5_1).toNat * 2)) = some (.int .i64 ((rd_T78 l0_2 x5_1).f0)) ∧ w'.cell? ⟨(ad333.add ((x5_1).toNat * 2)).block, (ad333.add ((x5_1).toNat * 2)).off + 1, none⟩ = some (.int .i64 ((rd_T78 l0_2 x5_1).f1)) ∧ w'.cell? (ad333.add ((x5_1).toNat * 2)) = some (.int .i64 ((rd_T78 l0_2 x5_1).f0)) ∧ w'.cell? ⟨(ad333.add ((x5_1).toNat * 2)).block, (ad333.add ((x5_1).toNat * 2)).off + 1, none⟩ = some (.int .i64 ((rd_T78 l0_2 x5_1).f1))) (ds := []) zbpz0 (by kernel_rfl) rfl rfl ⟨(blk_cell BK327.out 0).trans rfl, (blk_cell BK327.out 1).trans rfl, (blk_cell BK327.out 2).trans rfl, (zL HB hw333_0), (zL HB hw333_1), (zL HB hw334_0), (zL HB hw334_1)⟩ (fun hHeld => ?_); refine with_tabW annuitantref36_WriteAnswer.tab7 annuitantref36_WriteAnswer.bits7 (fun HT_ HW_ => ?_)
       generalize wr.drew = w18 at BK327 HB hx333_0 hx333_1 hx334_0 hx334_1 hHeld ⊢
       refine zbpp 0 (some 25) zbpz1 rfl rfl (any_of HT_.out (by kernel_rfl)) zbpq (Or.inl ⟨by rfl, by intro w'; go_simp; with_reducible rfl⟩) (by simp only [Act.put, zbp1, zbp2, zbp3, i64_w, i32_w]; rfl) ?_
       refine zbpp 1 (some 26) zbpz2 rfl rfl (any_of HT_.out (by kernel_rfl)) zbpq (Or.inl ⟨by rfl, by intro w'; go_simp; with_reducible rfl⟩) (by simp only [Act.put, zbp1, zbp2, zbp3, i64_w, i32_w]; rfl) ?_
       refine zbpp 3 (some 28) zbpz3 rfl rfl (any_of HT_.out (by kernel_rfl)) zbpq (Or.inl ⟨by rfl, by intro w'; go_simp; with_reducible rfl⟩) (by simp only [Act.put, zbp1, zbp2, zbp3, i64_w, i32_w]; rfl) ?_
       refine zbpp 7 (some 32) zbpz4 rfl rfl (any_of HT_.out (by kernel_rfl)) zbpq (Or.inl ⟨by rfl, by intro w'; go_simp; with_reducible rfl⟩) (by simp only [Act.put, zbp1, zbp2, zbp3, i64_w, i32_w]; rfl) ?_
       refine zbpp 9 (some 34) zbpz5 rfl rfl (any_of HT_.out (by kernel_rfl)) zbpq (Or.inl ⟨by rfl, by intro w'; go_simp; with_reducible rfl⟩) (by simp only [Act.put, zbp1, zbp2, zbp3, i64_w, i32_w]; rfl) ?_
       refine take_ (i := 2) (N := some 27) (v := ?_) (a' := ?_) zbpz6 rfl rfl (take_ofW HT_.out HW_.out (by kernel_rfl)) (fun _ _ _ h => h) (Or.inl ⟨by rfl, ?_⟩) hHeld ?_ ?_
       rotate_left
       ·
        rintro w' ⟨s0, s1, s2, s3, s4, s5, s6⟩
        go_simp
        with_reducible rfl
       rotate_left
       · simp only [Act.put, zbp1, zbp2, zbp3, i64_w, i32_w]; rfl
       refine zbpp 4 (some 29) zbpz7 rfl rfl (any_of HT_.out (by kernel_rfl)) zbpq (Or.inl ⟨by rfl, by intro w'; go_simp; with_reducible rfl⟩) (by simp only [Act.put, zbp1, zbp2, zbp3, i64_w, i32_w]; rfl) ?_
       refine zbpp 5 (some 30) zbpz8 rfl rfl (any_of HT_.out (by kernel_rfl)) zbpq (Or.inl ⟨by rfl, by intro w'; go_simp; with_reducible rfl⟩) (by simp only [Act.put, zbp1, zbp2, zbp3, i64_w, i32_w]; rfl) ?_
       refine take_ (i := 6) (N := some 31) (v := ?_) (a' := ?_) zbpz9 rfl rfl (take_ofW HT_.out HW_.out (by kernel_rfl)) (fun _ _ _ h => h) (Or.inl ⟨by rfl, ?_⟩) hHeld ?_ ?_
       rotate_left
       ·
        rintro w' ⟨s0, s1, s2, s3, s4, s5, s6⟩
        go_simp
        with_reducible rfl
       rotate_left
       · simp only [Act.put, zbp1, zbp2, zbp3, i64_w, i32_w]; rfl
       refine take_ (i := 8) (N := some 33) (v := ?_) (a' := ?_) zbpz10 rfl rfl (take_ofW HT_.out HW_.out (by kernel_rfl)) (fun _ _ _ h => h) (Or.inl ⟨by rfl, ?_⟩) hHeld ?_ ?_
       rotate_left
       ·
        rintro w' ⟨s0, s1, s2, s3, s4, s5, s6⟩
        go_simp
        with_reducible rfl
       rotate_left
       · simp only [Act.put, zbp1, zbp2, zbp3, i64_w, i32_w]; rfl
       refine zbpp 10 (some 35) zbpz11 rfl rfl (any_of HT_.out (by kernel_rfl)) zbpq (Or.inl ⟨by rfl, by intro w'; go_simp; with_reducible rfl⟩) (by simp only [Act.put, zbp1, zbp2, zbp3, i64_w, i32_w]; rfl) ?_
       refine zbpp 11 (some 36) zbpz12 rfl rfl (any_of HT_.out (by kernel_rfl)) zbpq (Or.inl ⟨by rfl, by intro w'; go_simp; with_reducible rfl⟩) (by simp only [Act.put, zbp1, zbp2, zbp3, i64_w, i32_w]; rfl) ?_
       refine take_ (i := 12) (N := some 37) (v := ?_) (a' := ?_) zbpz13 rfl rfl (take_ofW HT_.out HW_.out (by kernel_rfl)) (fun _ _ _ h => h) (Or.inl ⟨by rfl, ?_⟩) hHeld ?_ ?_
       rotate_left
       ·
        rintro w' ⟨s0, s1, s2, s3, s4, s5, s6⟩
        go_simp
        with_reducible rfl
       rotate_left
       · simp only [Act.put, zbp1, zbp2, zbp3, i64_w, i32_w]; rfl
       refine one_ (i := 13) (N := some 38) zbpz14 rfl rfl (one_of HT_.out (by kernel_rfl)) (by decide) (fun K hK => ?_)
       refine Kd.R_lit_step (Kd.int .i64) _ 3 ?hg (N := 38) ?hd (xs := ([(rd_T78 l0_2 x5_1).f0, (rd_T78 l0_2 x5_1).f1] : List Int)) (inner := [.int .i64 ((rd_T78 l0_2 x5_1).f0), .int .i64 ((rd_T78 l0_2 x5_1).f1)]) (ok := fun _ => True) (okp := fun _ => True) ?hr ?hp (fun _ hk => hk) trivial (Below.refl _ _) (Nat.le_refl _) (by simp) ?_; (case hd => rfl); (case hg => rfl); (case hr => first | (go_simp; done) | (go_simp; rfl)); (case hp => exact (Reps.one (show Kd.M (Kd.int .i64) _ _ _ ((rd_T78 l0_2 x5_1).f0) [.int .i64 ((rd_T78 l0_2 x5_1).f0)] from rfl) (Reps.one (show Kd.M (Kd.int .i64) _ _ _ ((rd_T78 l0_2 x5_1).f1) [.int .i64 ((rd_T78 l0_2 x5_1).f1)] from rfl) (Reps.none _ _))))
       intro v336 w19 ho20 hb hg_ hnew_; clear hg_ hnew_
       (first | rw [← Ny335.out] at ho20 | (simp only [Int.reduceToNat] at ho20; rw [← Ny335.out] at ho20))
       have n0_ := Aside0.mk (Kd.R_lower ho20 (below_size zB)); have n1_ := zKb BK327 hb
       have n2_ := zBs hb; clear BK327; clear HB; have HO337 := n0_; have BK327 := n1_; have HB := n2_; clear n0_ n1_ n2_; clear hb ho20; obtain ⟨Ao21, co21, eo21⟩ := Kd.R_slice HO337.out
       (first | subst eo21 | (injection eo21 with f1_ f2_ f3_; have f4_ := f1_.symm; have f5_ := f3_.symm; clear f1_ f2_ f3_; subst f4_; subst f5_))
       refine hK.out _ _ ⟨(blk_cell BK327.out 0).trans rfl, (blk_cell BK327.out 1).trans rfl, (blk_cell BK327.out 2).trans rfl, (zL HB hw333_0), (zL HB hw333_1), (zL HB hw334_0), (zL HB hw334_1)⟩ (fun hHeld => ?_)
       clear hK K
       refine norm_ (a' := ?_) ?_ ?_
       rotate_left
       ·
        show Act.put _ (some 38) _ = _
        simp only [Act.put, zbp1, zbp2, zbp3, i64_w, i32_w]
        rfl
       refine one_ (i := 14) (N := some 39) zbpz15 rfl rfl (one_of HT_.out (by kernel_rfl)) (by decide) (fun K hK => ?_)
       refine goes_ Tryz.func36 (by kernel_rfl) rfl #[.string (⟨#[114, 101, 116, 117, 114, 110]⟩ : ByteArray), .slice Ao21 y335.length co21] (by rfl) rfl rfl (by (try simp only [List.map_toArray, List.map_cons, List.map_nil]); try rfl) ?_
       with_reducible refine (annuitantref36_line.calls k1 (⟨#[114, 101, 116, 117, 114, 110]⟩ : ByteArray) _ _ y335 t338 _ ?side1 ?side2 A15.out).mono ?_
       (case side1 => repeat (first | exact (Kd.R_reads' HO337.out).2.2 | (with_reducible refine Kd.C_alloc ?_ _) | (with_reducible refine Kd.C_drewN ?_ _) | (with_reducible refine Kd.C_drew ?_)))
       (case side2 => exact (Kd.R_reads' HO337.out).2.1)
       rintro e w22 ⟨rfl, hb⟩
       refine ⟨_, rfl, ?_⟩
       have n0_ := Aside0.mk (Kd.R_below (zR HO337) hb)
       have n1_ := zKb BK327 hb
       have n2_ := zBs hb; clear HO337; clear BK327; clear HB; have HO337 := n0_; have BK327 := n1_; have HB := n2_; clear n0_ n1_ n2_
       (try clear hb)
       (try clear hb2)
       (try clear hk)
       (try clear hi)
       refine hK.out _ _ ⟨(blk_cell BK327.out 0).trans rfl, (blk_cell BK327.out 1).trans rfl, (blk_cell BK327.out 2).trans rfl, (zL HB hw333_0), (zL HB hw333_1), (zL HB hw334_0), (zL HB hw334_1)⟩ (fun hHeld => ?_)
       clear hK K
       refine norm_ (a' := ?_) ?_ ?_
       rotate_left
       ·
        show Act.put _ (some 39) _ = _
        simp only [Act.put, zbp1, zbp2, zbp3, i64_w, i32_w]
        rfl
       refine zbpp 15 (some 40) zbpz16 rfl rfl (any_of HT_.out (by kernel_rfl)) zbpq (Or.inl ⟨by rfl, by intro w'; go_simp; with_reducible rfl⟩) (by simp only [Act.put, zbp1, zbp2, zbp3, i64_w, i32_w]; rfl) ?_
       refine zbpp 16 (some 4) zbpz17 rfl rfl (any_of HT_.out (by kernel_rfl)) zbpq (Or.inl ⟨by rfl, by intro w'; go_simp; with_reducible rfl⟩) (by simp only [Act.put, zbp1, zbp2, zbp3, i64_w, i32_w]; rfl) ?_
       refine done_ (done_of HT_.out (by kernel_rfl)) ?_
       try go_wp2
       go_roundg k1
       case measure => have := HK1.out; omega
       case rel => exact ⟨(x4_1 ++ t338), (wrap64 (x5_1 + 1)), (by first | rfl | (simp; done) | (simp [*]; done)), (by first | rfl | (simp; done) | (simp [*]; done)), H', ⟨by have := HK1.out; omega⟩, ⟨zK BK327⟩, ⟨zB⟩⟩
      ·
       rw [if_neg c16] at H
       exact absurd H (by simp)
     ·
      rw [if_neg c14] at H
      exact absurd H (by simp)
    ·
     rw [if_neg c13] at H
     have c13b0 : decide (x5_1 < (l0_2.length : Int)) = false := decide_eq_false c13; clear c13; replace H := Option.bind_eq_some_iff.mp H; obtain ⟨t339, A230, H⟩ := H; replace H : (if x4_1.size + t339.size ≤ 9223372036854775807 then (some (x4_1 ++ t339, 0)) else (none)) = some (r1, r2) := H; have A23 := Aside0.mk A230; clear A230
     by_cases c24 : x4_1.size + t339.size ≤ 9223372036854775807
     ·
      rw [if_pos c24] at H
      have c24b0 := eq_true c24; have c24b1 : decide (x4_1.size + t339.size ≤ 9223372036854775807) = true := decide_eq_true c24
      try have c24b2 : (9223372036854775807 < x4_1.size + t339.size) = False := eq_false (Nat.not_lt.2 c24)
      simp only [Option.some.injEq, Prod.mk.injEq] at H
      obtain ⟨rfl, rfl⟩ := H; obtain ⟨hcz25_0, hcz25_1, hcz25_2⟩ := zC3 BK327; obtain ⟨hfz25_0, hfz25_1, hfz25_2⟩ := zZ3 BK327
      go_wp2_with (first | ((with_reducible refine gate_callee (f := 11) rfl ?_); refine goesL_ (some 43) rfl rfl Tryz.func11 (by kernel_rfl) rfl #[.string x4_1] rfl (by (try simp only [List.map_toArray, List.map_cons, List.map_nil]); try rfl) ?_; (with_reducible refine (annuitantref36_End.calls k1 x4_1 t339 _ A23.out).mono ?_); rintro e w' ⟨rfl, ⟨nd, rfl⟩⟩; refine ⟨_, rfl, ?_⟩))
      go_ret2
      exact ⟨zE, zB⟩
     ·
      rw [if_neg c24] at H
      exact absurd H (by simp)
 ·
  replace c3 := Bool.eq_false_iff.mpr c3; subst c3
  have H1 : (some ((⟨#[]⟩ : ByteArray), 2)) = some (r1, r2) := by rw [if_neg (show ¬ (false = true) by decide)] at H; exact H
  clear H; have H := H1; clear H1
  simp only [Option.some.injEq, Prod.mk.injEq] at H
  obtain ⟨rfl, rfl⟩ := H
  go_enter Tryz.func15, Tryz.ntmps15
  go_wp2_with (first | ((with_reducible refine gate_dst (N := 1) rfl ?_); refine box_event ?hg (N := 1) ?hd (cs := #[.int .i64 a0_0, .int .i64 a0_1, .slice A0_2 l0_2.length c0_2]) (t := 41) ?hr ?_; (case hd => rfl); (case hg => rfl); (case hr => first | (go_simp; done) | (go_simp; rfl)); intro gb327 hg w26 hbox hb; have BK327 := Aside0.mk (hbox); have GW327 := zG (w := w) hg; have GE327 := zG (w := w) hg; replace HB := zBs hb; clear hb hbox hg; obtain ⟨hcz27_0, hcz27_1, hcz27_2⟩ := zC3 BK327; obtain ⟨hfz27_0, hfz27_1, hfz27_2⟩ := zZ3 BK327) | ((with_reducible refine gate_callee (f := 38) rfl ?_); refine goesL_ (some 7) rfl rfl Tryz.func38 (by kernel_rfl) rfl #[.agg #[.int .i64 a0_0, .int .i64 a0_1, .slice A0_2 l0_2.length c0_2]] rfl (by (try simp only [List.map_toArray, List.map_cons, List.map_nil]); try rfl) ?_; (with_reducible refine (annuitantref36_Right.calls k a0_0 a0_1 _ _ l0_2 false _ ?side1 ?side2 A2.out).mono ?_); (case side1 => repeat (first | exact (Kd.C_below HR0_2.out HB.out) | (with_reducible refine Kd.C_alloc ?_ _) | (with_reducible refine Kd.C_drewN ?_ _) | (with_reducible refine Kd.C_drew ?_))); (case side2 => exact HC0_2.out); rintro e w28 ⟨rfl, hb⟩; refine ⟨_, rfl, ?_⟩; replace BK327 := zKb BK327 hb; replace HB := zBs hb; (try clear hb); (try clear hb2); (try clear hk); (try clear hi)))
  go_ret2
  exact ⟨zE, zB⟩
end Go.Proofs.YtndojpcjhkncgaaGreatDoor.Q
end

section
namespace Go.Proofs.YtndojpcjhkncgaaGreatDoor.Q
open Go.RowKit Go.Proofs.YtndojpcjhkncgaaGreatDoorW.PrintWords
set_option linter.unusedVariables false
set_option linter.unusedSimpArgs false
def B (l : List UInt8) : ByteArray := ⟨l.toArray⟩
theorem B_size (l : List UInt8) : (B l).size = l.length := by show l.toArray.size = _; simp
theorem B_cat (a b : List UInt8) : B a ++ B b = B (a ++ b) := by
  apply ByteArray.ext
  rw [ByteArray.data_append]
  simp [B]
theorem B_nums (xs : List Int) : strOfNums xs = B (xs.map fun n => UInt8.ofNat n.toNat) := rfl
theorem B_list (l : List UInt8) : (B l).toList = l := by rw [ByteArray.toList_eq]; simp [B] 
theorem B_bt (l : List UInt8) (i : Nat) (h : i < l.length) : bt (B l) (i : Int) = (l[i].toNat : Int) := by
  unfold bt
  rw [dif_pos (by rw [B_size]; simpa using h)]
  rfl
theorem itoa_len (n : Int) (h0 : -4611686018427387904 ≤ n) (h1 : n ≤ 4611686018427387904) : (Lib.itoa n).length ≤ 21 := Lib.itoa_length_le n (by omega) (by omega)
theorem dec_small (u : Nat) (h : u < 10) : Lib.decDigits u = [UInt8.ofNat (48 + u)] := by rw [Lib.decDigits, dif_pos h]
theorem dec_big (u : Nat) (h : ¬ u < 10) : Lib.decDigits u = Lib.decDigits (u / 10) ++ [UInt8.ofNat (48 + u % 10)] := by rw [Lib.decDigits, dif_neg h]
theorem dec_len (u : Nat) (h : u ≤ 4611686018427387904) : (Lib.decDigits u).length ≤ 21 := by
  have := itoa_len (u : Int) (by omega) (by omega)
  rwa [Lib.itoa_nonneg] at this
theorem decimal_l0 (u : Nat) : ∀ (s : List UInt8), u ≤ 4611686018427387904 → s.length + u ≤ 4611686018427387914 → Ev (fun k => annuitantref36_decimal.l0 k (u : Int) (B s)) (B (if u < 10 then s else Lib.decDigits (u / 10) ++ s)) := by
  induction u using Nat.strongRecOn with
  | _ u ih =>
    intro s hu hs
    refine Ev.step (fun k => by rw [annuitantref36_decimal.l0]) ?_
    by_cases h : u < 10
    · exact Ev.neg (by omega) (Ev.ret (by rw [if_pos h]))
    · refine Ev.pos (by omega) (Ev.const rfl ?_)
      have e1 : wrap64 (Int.tdiv (u : Int) 10) = ((u / 10 : Nat) : Int) := by
        rw [show Int.tdiv (u : Int) 10 = ((u / 10 : Nat) : Int) from rfl]
        exact w64 (by omega) (by omega)
      have e2 : strOfNums [(wrap64 (48 + (Int.tmod (wrap64 (Int.tdiv (u : Int) 10)) 10))) % 256] = B [UInt8.ofNat (48 + u / 10 % 10)] := by
        rw [e1, show Int.tmod ((u / 10 : Nat) : Int) 10 = ((u / 10 % 10 : Nat) : Int) from rfl, w64 (by omega) (by omega), B_nums]
        simp only [List.map_cons, List.map_nil]
        rw [show ((48 + ((u / 10 % 10 : Nat) : Int)) % 256).toNat = 48 + u / 10 % 10 by omega]
      rw [e1] at e2
      rw [e1, e2, B_cat]
      refine Ev.pos (by rw [B_size, B_size]; simp; omega) ?_
      have := ih (u / 10) (by omega) ([UInt8.ofNat (48 + u / 10 % 10)] ++ s) (by omega) (by simp; omega)
      refine Ev.eq this ?_
      rw [if_neg h]
      by_cases h2 : u / 10 < 10
      · rw [if_pos h2, dec_small _ h2, Nat.mod_eq_of_lt h2]
      · rw [if_neg h2, dec_big (u / 10) h2, List.append_assoc]
theorem decimal_nat (u : Nat) (hu : u ≤ 4611686018427387904) : Ev (fun k => annuitantref36_decimal.f k (u : Int)) (B (Lib.itoa u)) := by
  refine Ev.step (fun k => by rw [annuitantref36_decimal.f]) (Ev.neg (by omega) ?_)
  have e2 : strOfNums [(wrap64 (48 + (Int.tmod (u : Int) 10))) % 256] = B [UInt8.ofNat (48 + u % 10)] := by
    rw [show Int.tmod (u : Int) 10 = ((u % 10 : Nat) : Int) from rfl, w64 (by omega) (by omega), B_nums]
    simp only [List.map_cons, List.map_nil]
    rw [show ((48 + ((u % 10 : Nat) : Int)) % 256).toNat = 48 + u % 10 by omega]
  rw [e2]
  refine Ev.eq (decimal_l0 u [UInt8.ofNat (48 + u % 10)] hu (by simp; omega)) ?_
  rw [Lib.itoa_nonneg]
  by_cases h : u < 10
  · rw [if_pos h, dec_small _ h, Nat.mod_eq_of_lt h]
  · rw [if_neg h, ← dec_big u h]
theorem decimal_ev (n : Int) (h0 : -4611686018427387904 ≤ n) (h1 : n ≤ 4611686018427387904) : Ev (fun k => annuitantref36_decimal.f k n) (B (Lib.itoa n)) := by
  by_cases h : n < 0
  · obtain ⟨u, rfl⟩ : ∃ u : Nat, n = -(u : Int) := ⟨n.natAbs, by omega⟩
    refine Ev.step (fun k => by rw [annuitantref36_decimal.f]) (Ev.pos h ?_)
    rw [show wrap64 (-(-(u : Int))) = (u : Int) by rw [Int.neg_neg]; exact w64 (by omega) (by omega)]
    refine Ev.bind (decimal_nat u (by omega)) ?_
    have hl := dec_len u (by omega)
    rw [Lib.itoa_nonneg, Lib.itoa_neg u (by omega)]
    refine Ev.pos (by rw [B_size]; omega) (Ev.ret ?_)
    exact B_cat [45] _
  · obtain ⟨u, rfl⟩ : ∃ u : Nat, n = (u : Int) := ⟨n.toNat, by omega⟩
    exact decimal_nat u (by omega)
def okI (n : Int) : Prop := -4611686018427387904 ≤ n ∧ n ≤ 4611686018427387904
theorem numsL_cons (n : Int) (l : List Int) : numsL (n :: l) = [32] ++ Lib.itoa n ++ numsL l := by simp [numsL]
theorem numsL_len : ∀ (l : List Int), (∀ n ∈ l, okI n) → (numsL l).length ≤ 22 * l.length
  | [], _ => by simp [numsL]
  | n :: l, h => by
    have h1 := numsL_len l (fun m hm => h m (List.mem_cons_of_mem _ hm))
    have h2 := itoa_len n (h n (List.mem_cons_self)).1 (h n (List.mem_cons_self)).2
    rw [numsL_cons]
    simp only [List.length_append, List.length_cons, List.length_nil]
    omega
theorem rdI (L : List Int) (i : Nat) (h : i < L.length) : rd L (i : Int) = L[i] := by unfold rd; simp [h]
theorem line_l0 (ns : List Int) (hn : ∀ n ∈ ns, okI n) (hL : ns.length ≤ 1000) (d : Nat) : ∀ (i : Nat) (s : List UInt8), i + d = ns.length → s.length + 22 * d ≤ 140737488355328 → Ev (fun k => annuitantref36_line.l0 k (B s) ns (i : Int)) (B (s ++ numsL (ns.drop i) ++ [10])) := by
  induction d with
  | zero =>
    intro i s hi hs
    rw [List.drop_eq_nil_of_le (by omega)]
    refine Ev.step (fun k => by rw [annuitantref36_line.l0]) (Ev.neg (by omega) (Ev.pos (by rw [B_size]; omega) (Ev.ret ?_)))
    rw [show (⟨#[10]⟩ : ByteArray) = B [10] from rfl, B_cat]
    simp [numsL]
  | succ d ih =>
    intro i s hi hs
    have hlt : i < ns.length := by omega
    have hm := hn ns[i] (List.getElem_mem hlt)
    have hl := itoa_len ns[i] hm.1 hm.2
    rw [drop_get ns i hlt, numsL_cons]
    refine Ev.step (fun k => by rw [annuitantref36_line.l0]) (Ev.pos (by omega) (Ev.pos (by rw [B_size]; omega) (Ev.pos (by omega) ?_)))
    rw [rdI ns i hlt]
    refine Ev.bind (decimal_ev ns[i] hm.1 hm.2) (Ev.pos (by rw [B_size, B_size]; omega) ?_)
    rw [show (⟨#[32]⟩ : ByteArray) = B [32] from rfl, B_cat, B_cat, w64 (by omega) (by omega)]
    refine Ev.eq (ih (i + 1) (s ++ [32] ++ Lib.itoa ns[i]) (by omega) (by simp; omega)) ?_
    simp [List.append_assoc]
theorem line_ev (word : List UInt8) (ns : List Int) (hn : ∀ n ∈ ns, okI n) (hL : ns.length ≤ 1000) (hw : word.length ≤ 1000) : Ev (fun k => annuitantref36_line.f k (B word) ns) (B (lineL word ns)) := by
  unfold annuitantref36_line.f
  exact Ev.eq (line_l0 ns hn hL ns.length 0 word (by omega) (by omega)) (by simp [lineL])
theorem lineL_len (word : List UInt8) (ns : List Int) (hn : ∀ n ∈ ns, okI n) : (lineL word ns).length ≤ word.length + 22 * ns.length + 1 := by
  have := numsL_len ns hn
  unfold lineL
  simp only [List.length_append, List.length_cons, List.length_nil]
  omega
def hexR : Nat → Nat → List UInt8
  | 0, _ => []
  | j + 1, n => hexR j (n / 16) ++ [dig (n % 16)]
theorem hexR_zero : ∀ j, hexR j 0 = List.replicate j 48
  | 0 => rfl
  | j + 1 => by rw [hexR, Nat.zero_div, hexR_zero j, List.replicate_succ']; rfl
theorem hexR_eq : ∀ (j n : Nat), n < 16 ^ (j + 1) → hexR (j + 1) n = List.replicate (j + 1 - (hexL n).length) 48 ++ hexL n := by
  intro j
  induction j with
  | zero => intro n hn; rw [hexL_small n (by simpa using hn)]; simp [hexR]; rw [Nat.mod_eq_of_lt (by simpa using hn)]
  | succ j ih =>
    intro n hn
    rw [hexR]
    by_cases h : n < 16
    · rw [Nat.div_eq_of_lt h, hexR_zero, hexL_small n h, Nat.mod_eq_of_lt h]; simp
    · rw [ih (n / 16) (by rw [Nat.div_lt_iff_lt_mul (by omega), ← Nat.pow_succ]; exact hn), hexL_big n (by omega)]
      simp [List.append_assoc]
theorem hexR_8 (n : Nat) (h : n < 4294967296) : hexR 8 n = hex8 n := hexR_eq 7 n (by omega)
theorem hexR_len : ∀ j n, (hexR j n).length = j
  | 0, _ => rfl
  | j + 1, n => by rw [hexR, List.length_append, hexR_len j]; rfl
theorem hex8_len (n : Nat) (h : n < 4294967296) : (hex8 n).length = 8 := by rw [← hexR_8 n h, hexR_len]
theorem cut_dig (n : Nat) (h : n < 16) : (⟨#[48, 49, 50, 51, 52, 53, 54, 55, 56, 57, 97, 98, 99, 100, 101, 102]⟩ : ByteArray).extract n (n + 1) = B [dig n] := by
  match n, h with
  | 0, _ => rfl
  | 1, _ => rfl
  | 2, _ => rfl
  | 3, _ => rfl
  | 4, _ => rfl
  | 5, _ => rfl
  | 6, _ => rfl
  | 7, _ => rfl
  | 8, _ => rfl
  | 9, _ => rfl
  | 10, _ => rfl
  | 11, _ => rfl
  | 12, _ => rfl
  | 13, _ => rfl
  | 14, _ => rfl
  | 15, _ => rfl
  | n + 16, h => omega
theorem hex_l0 (d : Nat) : ∀ (i n : Nat) (s : List UInt8), i + d = 8 → n < 4294967296 → s.length = i → Ev (fun k => annuitantref36_hex.l0 k (n : Int) (B s) (i : Int)) (B (hexR d n ++ s)) := by
  induction d with
  | zero =>
    intro i n s hi hn hs
    exact Ev.step (fun k => by rw [annuitantref36_hex.l0]) (Ev.neg (by omega) (Ev.ret (by simp [hexR])))
  | succ d ih =>
    intro i n s hi hn hs
    refine Ev.step (fun k => by rw [annuitantref36_hex.l0]) (Ev.pos (by omega) ?_)
    rw [show Int.tmod (n : Int) 16 = ((n % 16 : Nat) : Int) from rfl, show Int.tdiv (n : Int) 16 = ((n / 16 : Nat) : Int) from rfl, w64 (n := ((n % 16 : Nat) : Int) + 1) (by omega) (by omega), w64 (n := ((n / 16 : Nat) : Int)) (by omega) (by omega), w64 (n := (i : Int) + 1) (by omega) (by omega)]
    rw [show (((n % 16 : Nat) : Int)).toNat = n % 16 from rfl, show (((n % 16 : Nat) : Int) + 1).toNat = n % 16 + 1 from rfl, cut_dig (n % 16) (by omega), B_cat]
    refine Ev.pos (by omega) (Ev.pos (by omega) (Ev.pos (by omega) (Ev.pos (by rw [B_size, B_size]; simp; omega) ?_)))
    refine Ev.eq (ih (i + 1) (n / 16) ([dig (n % 16)] ++ s) (by omega) (by omega) (by simp; omega)) ?_
    rw [hexR, List.append_assoc]
theorem hex_ev (n : Nat) (hn : n < 4294967296) : Ev (fun k => annuitantref36_hex.f k (n : Int)) (B (hex8 n)) := by
  unfold annuitantref36_hex.f
  refine Ev.eq (hex_l0 8 0 n [] rfl hn rfl) ?_
  rw [hexR_8 n hn, List.append_nil]
def sums : Nat → Nat → Nat → List UInt8 → Nat × Nat
  | _, a, w, [] => (a, w)
  | i, a, w, c :: l => sums (i + 1) ((a + c.toNat) % 4294967296) ((w + (i + 1) * c.toNat) % 4294967296) l
theorem sums_lt : ∀ (l : List UInt8) (i a w : Nat), a < 4294967296 → w < 4294967296 → (sums i a w l).1 < 4294967296 ∧ (sums i a w l).2 < 4294967296
  | [], _, _, _, h, h' => ⟨h, h'⟩
  | c :: l, i, a, w, h, h' => sums_lt l (i + 1) _ _ (Nat.mod_lt _ (by omega)) (Nat.mod_lt _ (by omega))
def endL (l : List UInt8) : List UInt8 := [69, 78, 68, 32] ++ hex8 (sums 0 0 0 l).1 ++ [32] ++ hex8 (sums 0 0 0 l).2 ++ [10]
theorem endL_len (l : List UInt8) : (endL l).length = 22 := by
  have h := sums_lt l 0 0 0 (by omega) (by omega)
  unfold endL
  simp only [List.length_append, List.length_cons, List.length_nil]
  rw [hex8_len _ h.1, hex8_len _ h.2]
theorem end_text (a w : Nat) (ha : a < 4294967296) (hw : w < 4294967296) {f : Nat → Option ByteArray} {g : Nat → Option ByteArray} (hf : Ev f (B (hex8 a))) (hg : Ev g (B (hex8 w))) :
    Ev (fun k => (f k).bind fun t210 => (if 4 + t210.size ≤ 9223372036854775807 then (if 4 + t210.size + 1 ≤ 9223372036854775807 then ((g k).bind fun t211 => (if 4 + t210.size + 1 + t211.size ≤ 9223372036854775807 then (if 4 + t210.size + 1 + t211.size + 1 ≤ 9223372036854775807 then (some (((((⟨#[69, 78, 68, 32]⟩ : ByteArray) ++ t210) ++ (⟨#[32]⟩ : ByteArray)) ++ t211) ++ (⟨#[10]⟩ : ByteArray))) else (none)) else (none))) else (none)) else (none)))
      (B ([69, 78, 68, 32] ++ hex8 a ++ [32] ++ hex8 w ++ [10])) := by
  have h1 := hex8_len a ha
  have h2 := hex8_len w hw
  refine Ev.bind hf (Ev.pos (by rw [B_size]; omega) (Ev.pos (by rw [B_size]; omega) (Ev.bind hg (Ev.pos (by rw [B_size, B_size]; omega) (Ev.pos (by rw [B_size, B_size]; omega) (Ev.ret ?_))))))
  rw [show (⟨#[69, 78, 68, 32]⟩ : ByteArray) = B [69, 78, 68, 32] from rfl, show (⟨#[32]⟩ : ByteArray) = B [32] from rfl, show (⟨#[10]⟩ : ByteArray) = B [10] from rfl, B_cat, B_cat, B_cat, B_cat]
theorem refEnd_l0 (L : List UInt8) (hL : L.length ≤ 4398046511104) (d : Nat) : ∀ (i a w : Nat), i + d = L.length → a < 4294967296 → w < 4294967296 →
    Ev (fun k => annuitantref36_End.l0 k (B L) (a : Int) (w : Int) (i : Int)) (B ([69, 78, 68, 32] ++ hex8 (sums i a w (L.drop i)).1 ++ [32] ++ hex8 (sums i a w (L.drop i)).2 ++ [10])) := by
  induction d with
  | zero =>
    intro i a w hi ha hw
    rw [List.drop_eq_nil_of_le (by omega)]
    exact Ev.step (fun k => by rw [annuitantref36_End.l0]) (Ev.neg (by rw [B_size]; omega) (end_text a w ha hw (hex_ev a ha) (hex_ev w hw)))
  | succ d ih =>
    intro i a w hi ha hw
    have hlt : i < L.length := by omega
    rw [drop_get L i hlt]
    refine Ev.step (fun k => by rw [annuitantref36_End.l0]) (Ev.pos (by rw [B_size]; omega) (Ev.pos (by omega) ?_))
    obtain ⟨c, hc⟩ : ∃ c, L[i] = c := ⟨_, rfl⟩
    rw [B_bt L i hlt, hc]
    have hb := c.toNat_lt
    have hm : (i + 1) * c.toNat ≤ 4398046511104 * 256 := Nat.mul_le_mul (by omega) (by omega)
    rw [w64 (n := (c.toNat : Int)) (by omega) (by omega), w64 (n := (i : Int) + 1) (by omega) (by omega)]
    rw [show ((i : Int) + 1) * (c.toNat : Int) = (((i + 1) * c.toNat : Nat) : Int) by rw [Int.natCast_mul, Int.natCast_add]; rfl]
    rw [w64 (n := (((i + 1) * c.toNat : Nat) : Int)) (by omega) (by omega), ← Int.natCast_add, ← Int.natCast_add, w64 (n := ((a + c.toNat : Nat) : Int)) (by omega) (by omega), w64 (n := ((w + (i + 1) * c.toNat : Nat) : Int)) (by omega) (by omega)]
    exact ih (i + 1) ((a + c.toNat) % 4294967296) ((w + (i + 1) * c.toNat) % 4294967296) (by omega) (Nat.mod_lt _ (by omega)) (Nat.mod_lt _ (by omega))
theorem refEnd_ev (L : List UInt8) (hL : L.length ≤ 4398046511104) : Ev (fun k => annuitantref36_End.f k (B L)) (B (endL L)) := by
  unfold annuitantref36_End.f
  exact refEnd_l0 L hL L.length 0 0 0 (by omega) (by omega) (by omega)
theorem bankhex_ev (n : Nat) (hn : n < 4294967296) : Ev (fun _ => bank_hex.f (n : Int)) (B (hex8 n)) := Ev.fix (by unfold bank_hex.f; rw [if_pos (by omega)]; rfl)
theorem bankEnd_l0 (L : List UInt8) (hL : L.length ≤ 4398046511104) (d : Nat) : ∀ (i a w : Nat), i + d = L.length → a < 4294967296 → w < 4294967296 →
    Ev (fun k => bank_end.l0 k (B L) (a : Int) (w : Int) (L.length : Int) (i : Int)) (B ([69, 78, 68, 32] ++ hex8 (sums i a w (L.drop i)).1 ++ [32] ++ hex8 (sums i a w (L.drop i)).2 ++ [10])) := by
  induction d with
  | zero =>
    intro i a w hi ha hw
    rw [List.drop_eq_nil_of_le (by omega)]
    exact Ev.step (fun k => by rw [bank_end.l0]) (Ev.neg (by omega) (end_text a w ha hw (bankhex_ev a ha) (bankhex_ev w hw)))
  | succ d ih =>
    intro i a w hi ha hw
    have hlt : i < L.length := by omega
    rw [drop_get L i hlt]
    refine Ev.step (fun k => by rw [bank_end.l0]) (Ev.pos (by omega) (Ev.pos (by omega) (Ev.pos (by rw [B_size]; omega) ?_)))
    obtain ⟨c, hc⟩ : ∃ c, L[i] = c := ⟨_, rfl⟩
    rw [B_bt L i hlt, hc]
    have hb := c.toNat_lt
    rw [w64 (n := (i : Int) + 1) (by omega) (by omega)]
    have e1 : (((a : Int) + ((c.toNat : Int) % 4294967296)) % 4294967296) = (((a + c.toNat) % 4294967296 : Nat) : Int) := by omega
    have e2 : (((w : Int) + (((((i : Int) + 1) % 4294967296) * ((c.toNat : Int) % 4294967296)) % 4294967296)) % 4294967296) = (((w + (i + 1) * c.toNat) % 4294967296 : Nat) : Int) := by
      rw [← Int.mul_emod, show ((i : Int) + 1) * (c.toNat : Int) = (((i + 1) * c.toNat : Nat) : Int) by rw [Int.natCast_mul, Int.natCast_add]; rfl]
      omega
    rw [e1, e2]
    exact ih (i + 1) ((a + c.toNat) % 4294967296) ((w + (i + 1) * c.toNat) % 4294967296) (by omega) (Nat.mod_lt _ (by omega)) (Nat.mod_lt _ (by omega))
theorem bankEnd_ev (L : List UInt8) (hL : L.length ≤ 4398046511104) : Ev (fun k => bank_end.f k (B L)) (B (endL L)) := by
  unfold bank_end.f
  rw [B_size]
  exact bankEnd_l0 L hL L.length 0 0 0 (by omega) (by omega) (by omega)
theorem closed_ev (L : List UInt8) (hL : L.length ≤ 4398046511104) : Ev (fun k => closedL k L) (B (L ++ endL L)) := by
  unfold closedL
  refine Ev.pos (by omega) (Ev.bind (bankEnd_ev L hL) (Ev.pos (by rw [B_size, endL_len]; omega) (Ev.ret ?_)))
  exact B_cat L (endL L)
end Go.Proofs.YtndojpcjhkncgaaGreatDoor.Q
end

section
namespace Go.Proofs.YtndojpcjhkncgaaGreatDoor.Q
open Go Go.RowKit Go.Shelf Go.Proofs.YtndojpcjhkncgaaGreatDoorW.PrintWords
attribute [local go_sem] Oper.semAt_some
set_option linter.unusedVariables false
set_option linter.unusedSimpArgs false
def flatL (ps : List (List UInt8)) : List UInt8 := ps.flatMap (· ++ [10])
def Bt (l : List UInt8) : ByteArray := ⟨l.toArray⟩
theorem Bt_size (l : List UInt8) : (Bt l).size = l.length := by show l.toArray.size = _; simp
def leftOf (bs : Nat) (w : World) : Nat := match w.cell? ⟨bs, 0, none⟩ with | some (.string s) => s.size | _ => 0
theorem index_piece (x r : List UInt8) (h : (10 : UInt8) ∉ x) : Lib.indexByte (x ++ 10 :: r) 10 = (x.length : Int) := by
  have hge := Lib.indexByte_ge (x ++ 10 :: r) 10
  have hat : (x ++ 10 :: r)[x.length]? = some 10 := by simp
  by_cases hm : Lib.indexByte (x ++ 10 :: r) 10 = -1
  · exact absurd hat (Lib.indexByte_none hm x.length)
  · obtain ⟨o, ho⟩ : ∃ o : Nat, Lib.indexByte (x ++ 10 :: r) 10 = (o : Int) := ⟨(Lib.indexByte (x ++ 10 :: r) 10).toNat, by omega⟩
    obtain ⟨h1, h2⟩ := Lib.indexByte_some ho
    rw [ho]
    rcases Nat.lt_trichotomy o x.length with hl | hl | hl
    · rw [List.getElem?_append_left hl] at h1
      exact absurd (List.mem_of_getElem? h1) h
    · omega
    · exact absurd hat (h2 _ hl)
set_option maxHeartbeats 1000000 in
theorem lines1_in (n l bs : Nat) (ps : List (List UInt8)) (hno : ∀ p ∈ ps, (10 : UInt8) ∉ p) (hsz : (flatL ps).length ≤ 4611686018427387904)
    (J Jx : List (List UInt8) → World → Prop) (hJs : ∀ pre W v, J pre W → J pre (W.setCell ⟨bs, 0, none⟩ v)) (hJd : ∀ pre W, J pre W → J pre W.drew)
    (hY : ∀ pre x rest s W, ps = pre ++ x :: rest → J pre W → W.heap[bs]? = some (.cells #[.string s] 9 (0, 0)) → YieldAt Fence.wide (n - 1) Tryz.prog l #[.string (Bt (x ++ [10]))] W fun e W' =>
      (e = .returned (.bool true) ∧ J (pre ++ [x]) W' ∧ W'.heap[bs]? = W.heap[bs]?) ∨ (e = .returned (.bool false) ∧ Jx (pre ++ [x]) W' ∧ W'.heap[bs]? = W.heap[bs]?))
    (W : World) (hb : W.heap[bs]? = some (.cells #[.string (Bt (flatL ps))] 9 (0, 0))) (h0 : J [] W) :
    CallsIn Fence.wide n Tryz.prog 92 #[.func (.yield l) #[] #[], .pointer (some ⟨bs, 0, none⟩)] W fun e W' => (∃ v, e = .returned v) ∧ (J ps W' ∨ ∃ pre, Jx pre W') := by
  refine callsIn_of_wp Tryz.func92 rfl trivial ?_ rfl
  simp only [Tryz.ntmps92, List.size_toArray, List.length_cons, List.length_nil, Nat.reduceAdd, Nat.reduceSub, Array.replicate_succ, Array.replicate_zero, List.push_toArray, List.append_toArray, List.nil_append, List.cons_append]
  gi_wp2
  gi_loopw [3, 4] (fun p q wr => ∃ pre rest, ps = pre ++ rest ∧ wr.heap[bs]? = some (.cells #[.string (Bt (flatL rest))] 9 (0, 0)) ∧ J pre wr) (fun _ _ wr => leftOf bs wr)
  case atStart => exact ⟨[], ps, rfl, hb, h0⟩
  case round =>
    obtain ⟨pre, rest, hp, hc, hj⟩ := hrel
    obtain ⟨S, hS⟩ : ∃ S, S = Bt (flatL rest) := ⟨_, rfl⟩
    rw [← hS] at hc
    have hcc : wr.cell? ⟨bs, 0, none⟩ = some (.string S) := blk_cell hc 0
    have hcf : wr.frozen? ⟨bs, 0, none⟩ = false := blk_frozen hc 0
    have HS := Lib.hid hS
    have HC := Lib.hid hc
    clear hS hc hb h0
    cases rest with
    | nil =>
      have h0s : S.size = 0 := by rw [HS.out, Bt_size]; rfl
      gi_wp2
      go_end0
      exact ⟨⟨_, rfl⟩, .inl (by rw [hp, List.append_nil]; exact hj)⟩
    | cons x rest =>
      have hxs : S.size = x.length + 1 + (flatL rest).length := by rw [HS.out, Bt_size]; unfold flatL; rw [List.flatMap_cons, List.length_append, List.length_append]; rfl
      have hpos : decide (0 < (S.size : Int)) = true := decide_eq_true (by omega)
      have hpos2 : decide (0 < S.size) = true := decide_eq_true (by omega)
      gi_wp2
      have hidx : Lib.indexByte S.data.toList ((10 : Int).toNat.toUInt8) = (x.length : Int) := by
        have : S.data.toList = x ++ 10 :: flatL rest := by rw [HS.out]; unfold Bt flatL; simp
        rw [this]
        exact index_piece x _ (hno x (by rw [hp]; simp))
      refine ⟨trivial, (fun h => by cases h), (callsIn_wide.2 (Tryz.strings_IndexByte S 10 wr)).mono ?_⟩
      rintro e w' ⟨he, rfl⟩
      rw [hidx] at he
      subst he
      have hge : decide (0 ≤ (x.length : Int)) = true := decide_eq_true (by omega)
      have hSb : S.size ≤ 4611686018427387904 := by
        have h1 : (flatL (pre ++ x :: rest)).length = (flatL pre).length + (x.length + 1 + (flatL rest).length) := by unfold flatL; rw [List.flatMap_append, List.length_append, List.flatMap_cons, List.length_append, List.length_append]; rfl
        rw [hp, h1] at hsz
        omega
      have hw1 : wrap64 ((x.length : Int) + 1) = (x.length : Int) + 1 := IntWalk.wrap64_in _ ⟨by omega, by omega⟩
      have g1 : (0 : Int) ≤ (x.length : Int) + 1 := by omega
      have g2 : (x.length : Int) + 1 ≤ (S.size : Int) := by omega
      have g3 : x.length + 1 ≤ S.size := by omega
      clear hidx
      gi_wp2
      gi_region
      have hd : S.data.toList = x ++ 10 :: flatL rest := by rw [HS.out]; unfold Bt flatL; simp
      have hx1 : S.extract 0 (x.length + 1) = Bt (x ++ [10]) := by
        rw [show S = Bt (x ++ 10 :: flatL rest) by rw [← hd]; cases S; rfl]
        unfold Bt
        apply ByteArray.ext
        simp [ByteArray.data_extract, List.extract]
        rw [show x ++ 10 :: flatL rest = (x ++ [10]) ++ flatL rest by simp, List.take_left' (by simp)]
      have hx2 : S.extract (x.length + 1) (x.length + 1 + (flatL rest).length) = Bt (flatL rest) := by
        rw [show S = Bt (x ++ 10 :: flatL rest) by rw [← hd]; cases S; rfl]
        unfold Bt
        apply ByteArray.ext
        simp [ByteArray.data_extract, List.extract]
      rw [hx1, hx2]
      have hc2 : ((w'.setCell ⟨bs, 0, none⟩ (.string (Bt (flatL rest)))).drew).heap[bs]? = some (.cells #[.string (Bt (flatL rest))] 9 (0, 0)) := blk_drew (blk_put (cs := #[.string S]) HC.out 0 _ rfl)
      have hj2 := hJd _ _ (hJs pre w' (.string (Bt (flatL rest))) hj)
      have HRes := Lib.hid (show leftOf bs w' = x.length + 1 + (flatL rest).length by unfold leftOf; rw [hcc]; exact hxs)
      clear hcc hcf hx1 hx2 hd
      generalize (w'.setCell ⟨bs, 0, none⟩ (.string (Bt (flatL rest)))).drew = w2 at hc2 hj2 ⊢
      obtain ⟨fn, tmps, assign, body, hy, hR⟩ := hY pre x rest _ w2 hp hj2 hc2
      have HC2 := Lib.hid hc2
      clear hc2
      gi_wp2
      refine ⟨(fun h => by cases h), hR.mono ?_⟩
      rintro e W3 (⟨rfl, hj3, hk3⟩ | ⟨rfl, hx3, _⟩)
      · have hc3 := hk3.trans HC2.out
        have HC3 := Lib.hid hc3
        clear hc3 hk3
        gi_wp2
        go_roundw
        case rel => exact ⟨pre ++ [x], rest, by rw [hp]; simp, HC3.out, hj3⟩
        case measure =>
          have h1 : leftOf bs W3 = (flatL rest).length := by unfold leftOf; rw [show W3.cell? ⟨bs, 0, none⟩ = some (.string (Bt (flatL rest))) from blk_cell HC3.out 0]; exact Bt_size _
          rw [h1, HRes.out]
          omega
      · gi_wp2
        refine bodyPost_ret (results_none rfl _ _ _) rfl ?_
        exact ⟨⟨_, rfl⟩, .inr ⟨_, hx3⟩⟩
end Go.Proofs.YtndojpcjhkncgaaGreatDoor.Q
end

section
namespace Go.Proofs.YtndojpcjhkncgaaGreatDoor.Q
open Go
set_option linter.unusedVariables false
set_option linter.unusedSimpArgs false
def wordsL (c : UInt8) : List UInt8 → List (List UInt8)
  | [] => [[]]
  | b :: l => if b = c then [] :: wordsL c l else match wordsL c l with | w :: ws => (b :: w) :: ws | [] => [[b]]
theorem words_one (c : UInt8) : ∀ (l : List UInt8), c ∉ l → wordsL c l = [l]
  | [], _ => rfl
  | b :: l, h => by
    have hb : b ≠ c := fun e => h (by simp [e])
    rw [wordsL, if_neg hb, words_one c l (fun e => h (by simp [e]))]
theorem words_cat (c : UInt8) (r : List UInt8) : ∀ (p : List UInt8), c ∉ p → wordsL c (p ++ c :: r) = p :: wordsL c r
  | [], _ => by rw [List.nil_append, wordsL, if_pos rfl]
  | b :: p, h => by
    have hb : b ≠ c := fun e => h (by simp [e])
    rw [List.cons_append, wordsL, if_neg hb, words_cat c r p (fun e => h (by simp [e]))]
theorem index_at (c : UInt8) (x r : List UInt8) (h : c ∉ x) : Lib.indexByte (x ++ c :: r) c = (x.length : Int) := by
  have hge := Lib.indexByte_ge (x ++ c :: r) c
  have hat : (x ++ c :: r)[x.length]? = some c := by simp
  by_cases hm : Lib.indexByte (x ++ c :: r) c = -1
  · exact absurd hat (Lib.indexByte_none hm x.length)
  · obtain ⟨o, ho⟩ : ∃ o : Nat, Lib.indexByte (x ++ c :: r) c = (o : Int) := ⟨(Lib.indexByte (x ++ c :: r) c).toNat, by omega⟩
    obtain ⟨h1, h2⟩ := Lib.indexByte_some ho
    rw [ho]
    rcases Nat.lt_trichotomy o x.length with hl | hl | hl
    · rw [List.getElem?_append_left hl] at h1
      exact absurd (List.mem_of_getElem? h1) h
    · omega
    · exact absurd hat (h2 _ hl)
theorem index_no (c : UInt8) (l : List UInt8) (h : c ∉ l) : Lib.indexByte l c = -1 := by
  have hge := Lib.indexByte_ge l c
  by_cases hm : Lib.indexByte l c = -1
  · exact hm
  · obtain ⟨o, ho⟩ : ∃ o : Nat, Lib.indexByte l c = (o : Int) := ⟨(Lib.indexByte l c).toNat, by omega⟩
    exact absurd (List.mem_of_getElem? (Lib.indexByte_some ho).1) h
theorem Bt_data (l : List UInt8) : (Bt l).data.toList = l := by unfold Bt; simp
theorem indexB_Bt (l : List UInt8) (c : UInt8) : Lib.indexB (Bt l) ⟨#[c]⟩ = Lib.indexByte l c := by
  unfold Lib.indexB
  rw [Bt_data]
  exact Lib.index_one l c
theorem Bt_cut (p : List UInt8) (c : UInt8) (r : List UInt8) : (Bt (p ++ c :: r)).extract 0 p.length = Bt p ∧ (Bt (p ++ c :: r)).extract (p.length + 1) (Bt (p ++ c :: r)).size = Bt r := by
  constructor
  · apply ByteArray.ext
    simp [Bt, ByteArray.data_extract, List.extract]
  · rw [Bt_size]
    apply ByteArray.ext
    simp [Bt, ByteArray.data_extract, List.extract]
    exact List.take_of_length_le (by omega)
theorem split_words (c : UInt8) : ∀ (n : Nat) (l : List UInt8), l.length ≤ n → Lib.splitB ⟨#[c]⟩ 0 (Lib.countB (Bt l) ⟨#[c]⟩) (Bt l) = (wordsL c l).map Bt ∧ (wordsL c l).length = Lib.countB (Bt l) ⟨#[c]⟩ + 1
  | n, l, hn => by
    by_cases hc : c ∈ l
    · obtain ⟨p, r, hl, hp⟩ := List.eq_append_cons_of_mem hc
      subst hl
      have hi : Lib.indexB (Bt (p ++ c :: r)) ⟨#[c]⟩ = (p.length : Int) := by rw [indexB_Bt]; exact index_at c p r hp
      have hcnt := Lib.countB_hit (Bt (p ++ c :: r)) ⟨#[c]⟩ p.length (Nat.le_refl _) hi
      have h1 : (⟨#[c]⟩ : ByteArray).size = 1 := rfl
      rw [h1, (Bt_cut p c r).2] at hcnt
      cases n with
      | zero => simp at hn
      | succ n =>
        obtain ⟨h2, h3⟩ := split_words c n r (by simp at hn; omega)
        rw [hcnt, Nat.add_comm 1, Lib.splitB_hit _ _ _ _ _ hi, h1, (Bt_cut p c r).2, Nat.add_zero, (Bt_cut p c r).1, h2, words_cat c r p hp]
        exact ⟨rfl, by rw [List.length_cons, h3]⟩
    · have hi : Lib.indexB (Bt l) ⟨#[c]⟩ = -1 := by rw [indexB_Bt]; exact index_no c l hc
      rw [Lib.countB_miss _ _ hi, Lib.splitB_miss _ _ _ _ hi, words_one c l hc]
      exact ⟨rfl, rfl⟩
theorem wordsL_len (c : UInt8) : ∀ (l : List UInt8) (w : List UInt8), w ∈ wordsL c l → w.length ≤ l.length
  | [], w, h => by
    rw [wordsL, List.mem_singleton] at h
    subst h
    exact Nat.le_refl _
  | b :: l, w, h => by
    rw [wordsL] at h
    by_cases hb : b = c
    · rw [if_pos hb] at h
      rcases List.mem_cons.mp h with rfl | h
      · exact Nat.zero_le _
      · exact Nat.le_succ_of_le (wordsL_len c l w h)
    · rw [if_neg hb] at h
      cases hx : wordsL c l with
      | nil =>
        rw [hx] at h
        rw [List.mem_singleton.mp h]
        simp
      | cons x xs =>
        rw [hx] at h
        rcases List.mem_cons.mp h with rfl | h
        · have := wordsL_len c l x (by rw [hx]; exact List.mem_cons_self)
          rw [List.length_cons, List.length_cons]
          omega
        · exact Nat.le_succ_of_le (wordsL_len c l w (by rw [hx]; exact List.mem_cons_of_mem _ h))
end Go.Proofs.YtndojpcjhkncgaaGreatDoor.Q
end

section
namespace Go.Proofs.YtndojpcjhkncgaaGreatDoor.Q
open Go Go.RowKit Go.Proofs.YtndojpcjhkncgaaGreatDoorW.PrintWords Go.Proofs.YtndojpcjhkncgaaGreatDoorW.PrintLast Go.Proofs.YtndojpcjhkncgaaGreatDoorW.PrintMore
set_option linter.unusedVariables false
set_option linter.unusedSimpArgs false
def numIn (v : Int) : Bool := decide (-1099511627776 ≤ v) && decide (v ≤ 1099511627776)
def numF (l : List UInt8) : Int × Bool :=
  match Lib.atoiAll l with
  | .ok v => (v, numIn v && decide (Lib.itoa v = l))
  | .range => (Lib.atoiSat l, false)
  | _ => (0, false)
open Go.Shelf in
theorem atoi_bad (s : ByteArray) (hlim : s.size ≤ 281474976710656) (h1 : ∀ v, Lib.atoiAll s.data.toList ≠ .ok v) (h2 : Lib.atoiAll s.data.toList ≠ .range) (ev : Value) (w : World) (hv : w.cell? ⟨2, 0, none⟩ = some ev) (hev : ev = .nilIface ∨ ∃ te pe, ev = .iface te pe) :
    Calls Tryz.prog 80 #[.string s] w fun e w' => ∃ N, e = .returned (.tuple #[.int .i64 (0), .iface 158 (.pointer (some ⟨N, 0, none⟩))]) ∧ w.heap.size ≤ N ∧ w'.heap[N]? = some (.cells #[.string ⟨#[65, 116, 111, 105]⟩, .string s, ev] 174 (0, 0)) ∧ Below w.heap.size w w' :=
  Any.strconv_Atoi_syntax Tryz.laysC172 s hlim (by
    cases hh : Lib.atoiAll s.data.toList with
    | ok v => exact absurd hh (h1 v)
    | range => exact absurd hh h2
    | _ => rfl) ev w hv hev
set_option maxHeartbeats 1000000 in
theorem number_go (l : List UInt8) (hs : l.length ≤ 281474976710656) (w : World) (hG : GG w) :
    Calls Tryz.prog 68 #[.string ⟨l.toArray⟩] w fun e w' => e = .returned (.tuple #[.int .i64 (numF l).1, .bool (numF l).2]) ∧ Below w.heap.size w w' := by
  obtain ⟨s, hsl⟩ : ∃ s : ByteArray, s = ⟨l.toArray⟩ := ⟨_, rfl⟩
  have hd : s.data.toList = l := by rw [hsl]
  have hsz : s.size = l.length := by rw [hsl]; show l.toArray.size = _; simp
  rw [← hsl]
  have HSL := Lib.hid hsl
  have HD := Lib.hid hd
  have HG := Lib.hid hG
  clear hsl
  cases hat : Lib.atoiAll l with
  | ok v =>
    have HA := Lib.hid hat
    have hA := Tryz.strconv_Atoi_ok s (by omega) v (by rw [hd]; exact hat) w
    have HC := Lib.hid hA
    clear hA hat hd hG
    go_enter Tryz.func68, Tryz.ntmps68
    go_wp2_with fail
    refine HC.out.mono ?_
    rintro e w1 ⟨rfl, hw⟩
    have HB := Lib.hid (show Below w.heap.size w w1 by
      rcases hw with rfl | ⟨t, rfl⟩
      · exact Below.refl _ _
      · exact Lib.bytesWorld_below _ _ _)
    clear hw HC
    by_cases h1 : -1099511627776 ≤ v
    · have h1b : decide (-1099511627776 ≤ v) = true := decide_eq_true h1
      by_cases h2 : v ≤ 1099511627776
      · have h2b : decide (v ≤ 1099511627776) = true := decide_eq_true h2
        go_wp2_with fail
        refine (strconv_Itoa.calls v ⟨(Lib.itoa v).toArray⟩ w1 (HG.out.below HB.out) (by unfold strconv_Itoa.f; rw [if_pos (by omega)])).mono ?_
        rintro e w2 ⟨rfl, hb2⟩
        have HB2 := Lib.hid (below_then HB.out HB.out.size hb2)
        clear hb2
        go_wp2_with fail
        go_ret2
        have hb : (Lib.itoa v == s.toList) = decide (Lib.itoa v = l) := by rw [ByteArray.toList_eq, HD.out, Bool.eq_iff_iff, beq_iff_eq, decide_eq_true_iff]
        have hn : numF l = (v, decide (Lib.itoa v = l)) := by unfold numF numIn; rw [HA.out]; simp [h1b, h2b]
        exact ⟨by rw [hn, ← hb]; rfl, HB2.out⟩
      · have h2b : decide (v ≤ 1099511627776) = false := decide_eq_false h2
        go_wp2_with fail
        go_ret2
        exact ⟨by unfold numF; rw [HA.out]; simp [numIn]; intro h3 h4; omega, HB.out⟩
    · have h1b : decide (-1099511627776 ≤ v) = false := decide_eq_false h1
      go_wp2_with fail
      go_ret2
      exact ⟨by unfold numF; rw [HA.out]; simp [numIn]; intro h3 h4; omega, HB.out⟩
  | range =>
    obtain ⟨ev, hv, hev⟩ := hG.rng
    have HC := Lib.hid (Tryz.strconv_Atoi_range s (by omega) (by rw [hd]; exact hat) ev w hv hev)
    have HA := Lib.hid hat
    clear hat hG hv hev
    obtain ⟨v, hv⟩ : ∃ v, v = Lib.atoiSat s.data.toList := ⟨_, rfl⟩
    rw [← hv] at HC
    have HV := Lib.hid (show v = Lib.atoiSat l by rw [hv, hd])
    clear hv hd
    go_enter Tryz.func68, Tryz.ntmps68
    go_wp2_with fail
    refine HC.out.mono ?_
    rintro e w1 ⟨N, rfl, _, _, hb⟩
    have HB := Lib.hid hb
    clear hb HC
    go_wp2_with fail
    go_ret2
    exact ⟨by unfold numF; rw [HA.out, ← HV.out]; rfl, HB.out⟩
  | _ =>
    obtain ⟨ev, hv, hev⟩ := hG.syn
    have HC := Lib.hid (atoi_bad s (by omega) (fun v e => by rw [hd, hat] at e; cases e) (fun e => by rw [hd, hat] at e; cases e) ev w hv hev)
    have HA := Lib.hid hat
    clear hat hd hG hv hev
    go_enter Tryz.func68, Tryz.ntmps68
    go_wp2_with fail
    refine HC.out.mono ?_
    rintro e w1 ⟨N, rfl, _, _, hb⟩
    have HB := Lib.hid hb
    clear hb HC
    go_wp2_with fail
    go_ret2
    exact ⟨by unfold numF; rw [HA.out]; rfl, HB.out⟩
end Go.Proofs.YtndojpcjhkncgaaGreatDoor.Q
end

section
namespace Go.Proofs.YtndojpcjhkncgaaGreatDoor.Q
open Go Go.RowKit Go.Proofs.YtndojpcjhkncgaaGreatDoorW.PrintWords
set_option linter.unusedVariables false
set_option linter.unusedSimpArgs false
def numsOf : List (List UInt8) → Option (List Int)
  | [] => some []
  | w :: ws => if (numF w).2 = true then (numsOf ws).map ((numF w).1 :: ·) else none
def scanF (l word : List UInt8) (m : Nat) : Option (List Int) :=
  match wordsL 32 l with
  | w :: ws => if w = word ∧ ws.length = m then numsOf ws else none
  | [] => none
def setAll (w : World) (l : List ((Nat × Nat) × Int)) : World := l.foldl (fun w x => w.setCell ⟨x.1.1, x.1.2, none⟩ (.int .i64 x.2)) w
theorem setAll_snoc (w : World) (l : List ((Nat × Nat) × Int)) (p : Nat × Nat) (n : Int) : setAll w (l ++ [(p, n)]) = (setAll w l).setCell ⟨p.1, p.2, none⟩ (.int .i64 n) := by simp [setAll, List.foldl_append]
theorem setAll_size : ∀ (l : List ((Nat × Nat) × Int)) (w : World), (setAll w l).heap.size = w.heap.size
  | [], w => rfl
  | x :: l, w => by
    show (setAll (w.setCell ⟨x.1.1, x.1.2, none⟩ (.int .i64 x.2)) l).heap.size = _
    rw [setAll_size l]
    simp [World.setCell]
theorem setAll_other : ∀ (l : List ((Nat × Nat) × Int)) (w : World) (k : Nat), (∀ x ∈ l, x.1.1 ≠ k) → (setAll w l).heap[k]? = w.heap[k]?
  | [], w, k, _ => rfl
  | x :: l, w, k, h => by
    show (setAll (w.setCell ⟨x.1.1, x.1.2, none⟩ (.int .i64 x.2)) l).heap[k]? = _
    rw [setAll_other l _ k (fun y hy => h y (List.mem_cons_of_mem _ hy))]
    exact Below.heap_setCell _ _ _ _ (fun e => h x List.mem_cons_self e.symm)
theorem setAll_below (B : Nat) : ∀ (l : List ((Nat × Nat) × Int)) (w : World), (∀ x ∈ l, B ≤ x.1.1) → Below B w (setAll w l)
  | [], w, _ => Below.refl _ _
  | x :: l, w, h => ((Below.refl B w).setCell (p := ⟨x.1.1, x.1.2, none⟩) (h x List.mem_cons_self) _).trans (setAll_below B l _ (fun y hy => h y (List.mem_cons_of_mem _ hy)))
theorem setAll_shape : ∀ (l : List ((Nat × Nat) × Int)) (w : World) (k : Nat) (cs : Array Value) (t : TypeId), w.heap[k]? = some (.cells cs t (0, 0)) → ∃ cs', (setAll w l).heap[k]? = some (.cells cs' t (0, 0)) ∧ cs'.size = cs.size
  | [], w, k, cs, t, h => ⟨cs, h, rfl⟩
  | x :: l, w, k, cs, t, h => by
    show ∃ cs', (setAll (w.setCell ⟨x.1.1, x.1.2, none⟩ (.int .i64 x.2)) l).heap[k]? = _ ∧ _
    by_cases hk : x.1.1 = k
    · subst hk
      obtain ⟨cs', h1, h2⟩ := setAll_shape l _ x.1.1 (cs.setIfInBounds x.1.2 (.int .i64 x.2)) t (blk_put h x.1.2 (.int .i64 x.2) rfl)
      exact ⟨cs', h1, by rw [h2]; simp⟩
    · exact setAll_shape l _ k cs t ((Below.heap_setCell _ _ _ _ (fun e => hk e.symm)).trans h)
theorem numsOf_snoc : ∀ (ws : List (List UInt8)) (x : List UInt8), numsOf (ws ++ [x]) = match numsOf ws with | some ms => if (numF x).2 = true then some (ms ++ [(numF x).1]) else none | none => none
  | [], x => by
    show (if (numF x).2 = true then (numsOf []).map ((numF x).1 :: ·) else none) = _
    split <;> simp [numsOf]
  | w :: ws, x => by
    rw [List.cons_append, numsOf, numsOf, numsOf_snoc ws x]
    by_cases h : (numF w).2 = true
    · rw [if_pos h, if_pos h]
      cases numsOf ws with
      | none => rfl
      | some ms =>
        simp only [Option.map_some]
        split <;> simp
    · rw [if_neg h, if_neg h]
theorem numsOf_none : ∀ (a b : List (List UInt8)), numsOf a = none → numsOf (a ++ b) = none
  | [], b, h => by cases h
  | w :: ws, b, h => by
    rw [List.cons_append, numsOf]
    rw [numsOf] at h
    by_cases hw : (numF w).2 = true
    · rw [if_pos hw] at h ⊢
      rw [numsOf_none ws b (by simpa using h)]
      rfl
    · rw [if_neg hw]
theorem numsOf_len : ∀ (ws : List (List UInt8)) (ns : List Int), numsOf ws = some ns → ns.length = ws.length
  | [], ns, h => by cases h; rfl
  | w :: ws, ns, h => by
    unfold numsOf at h
    split at h
    · obtain ⟨ms, h1, rfl⟩ := Option.map_eq_some_iff.mp h
      rw [List.length_cons, List.length_cons, numsOf_len ws ms h1]
    · cases h
theorem zip_snoc {α β : Type} : ∀ (ms : List β) (ps : List α) (n : β) (h : ms.length < ps.length), ps.zip (ms ++ [n]) = ps.zip ms ++ [(ps[ms.length], n)]
  | [], p :: ps, n, _ => by simp
  | m :: ms, p :: ps, n, h => by
    have := zip_snoc ms ps n (by simpa using h)
    simp [this]
theorem below_set_both {B : Nat} {A C : World} (h : Below B A C) (p : Addr) (hp : p.block < B) (v : Value) : Below B (A.setCell p v) (C.setCell p v) :=
  ⟨h.os, h.tape, h.output, by have := h.size; simpa [World.setCell] using this, fun k hk => by simp only [World.setCell, Array.getElem?_modify]; rw [h.block k hk]⟩
theorem scan_bounds (q n N : Nat) (h : q < n) (hn : n ≤ 100) (hN : N = n + 1) : (0 : Int) ≤ (q : Int) ∧ (q : Int) < (n : Int) ∧ wrap64 ((q : Int) + 1) = (q : Int) + 1 ∧ (q : Int) + 1 < (N : Int) ∧ (0 : Int) ≤ (q : Int) + 1 := by
  refine ⟨by omega, by omega, IntWalk.wrap64_in _ ⟨by omega, by omega⟩, by omega, by omega⟩
set_option maxHeartbeats 2000000 in
theorem scan_go (l word : List UInt8) (hl : l.length ≤ 1048576) (ptrs : List (Nat × Nat)) (hpl : ptrs.length ≤ 100) (g : Nat) (w0 w : World) (hG0 : GG w0) (hlow : Below w0.heap.size w0 w)
    (hg : w.heap[g]? = some (.cells (ptrs.map fun p => Value.pointer (some ⟨p.1, p.2, none⟩)).toArray 90 (0, 0)))
    (hp : ∀ p ∈ ptrs, p.1 ≠ g ∧ w0.heap.size ≤ p.1 ∧ ∃ cs t, w.heap[p.1]? = some (.cells cs t (0, 0)) ∧ p.2 < cs.size) :
    Calls Tryz.prog 49 #[.string (Bt l), .string (Bt word), .slice (some ⟨g, 0, none⟩) ptrs.length ptrs.length] w fun e w' =>
      ∃ ms, e = .returned (.bool (scanF l word ptrs.length).isSome) ∧ ms.length ≤ ptrs.length ∧ (∀ ns, scanF l word ptrs.length = some ns → ms = ns) ∧ Below w.heap.size (setAll w (ptrs.zip ms)) w' := by
  have hG := hG0.below hlow
  obtain ⟨m, hm⟩ := hG.max
  have HG0 := Lib.hid hG0
  have HLow := Lib.hid hlow
  clear hG0 hlow
  have HSp := Lib.hid (Tryz.strings_Split (Bt l) ⟨#[32]⟩ m w (by rw [Bt_size]; omega) hm (Nat.le_refl _))
  obtain ⟨hw1, hw2⟩ := split_words 32 l.length l (Nat.le_refl _)
  have HG := Lib.hid hG
  have HW1 := Lib.hid hw1
  have HW2 := Lib.hid hw2
  have HP := Lib.hid hp
  have HGg := Lib.hid hg
  clear hG hm hw1 hw2 hp hg
  go_enter Tryz.func49, Tryz.ntmps49
  go_wp2_with fail
  refine HSp.out.mono ?_
  rintro e w1 ⟨rfl, hw⟩
  rw [HW1.out] at hw
  rw [← HW2.out]
  obtain ⟨wd, ws, hwl⟩ : ∃ wd ws, wordsL 32 l = wd :: ws := by
    cases hx : wordsL 32 l with
    | nil => have := HW2.out; rw [hx] at this; simp at this
    | cons a b => exact ⟨a, b, rfl⟩
  obtain ⟨N, hN⟩ : ∃ N, N = (wordsL 32 l).length := ⟨_, rfl⟩
  rw [← hN]
  have hN1 : N = ws.length + 1 := by rw [hN, hwl]; rfl
  have hblk : w1.heap[w.heap.size]? = some (.cells (((wordsL 32 l).map Bt).map Value.string).toArray 9 (0, 0)) := by rw [hw]; exact blk_new w _
  rw [hwl] at hblk
  have hc0 : w1.cell? ⟨w.heap.size, 0, none⟩ = some (.string (Bt wd)) := blk_cell hblk 0
  have h0 : (0 : Int) < (N : Int) := by omega
  have HB1 := Lib.hid (show Below w.heap.size w w1 by rw [hw]; exact below_alloc (Below.refl _ _) _)
  have HBk := Lib.hid hblk
  have HWL := Lib.hid hwl
  have HN := Lib.hid hN
  have HN1 := Lib.hid hN1
  clear hw hblk hwl hN hN1 HSp
  have hw64 : wrap64 ((ptrs.length : Int) + 1) = (ptrs.length : Int) + 1 := IntWalk.wrap64_in _ ⟨by omega, by omega⟩
  go_wp2_with fail
  · rename_i heq hne
    go_ret
    have hs : scanF l word ptrs.length = none := by
      unfold scanF
      rw [HWL.out]
      show (if wd = word ∧ ws.length = ptrs.length then numsOf ws else none) = none
      rw [if_neg]
      rintro ⟨_, h2⟩
      have := HN1.out
      have h4 : (N : Int) ≠ (ptrs.length : Int) + 1 := by simpa using hne
      omega
    rw [hs]
    exact ⟨[], rfl, Nat.zero_le _, (fun ns h => by cases h), by rw [List.zip_nil_right]; exact HB1.out⟩
  rotate_left
  · rename_i hne
    go_ret
    have hs : scanF l word ptrs.length = none := by
      unfold scanF
      rw [HWL.out]
      show (if wd = word ∧ ws.length = ptrs.length then numsOf ws else none) = none
      rw [if_neg]
      rintro ⟨rfl, _⟩
      exact hne rfl
    rw [hs]
    exact ⟨[], rfl, Nat.zero_le _, (fun ns h => by cases h), by rw [List.zip_nil_right]; exact HB1.out⟩
  rename_i heq hnn K1 hK1
  have HNN := Lib.hid (show N = ptrs.length + 1 by
    have h4 : (N : Int) = (ptrs.length : Int) + 1 := by simpa using hnn
    omega)
  have HEQ := Lib.hid (show wd = word by
    rw [ByteArray.toList_eq, ByteArray.toList_eq, Bt_data, Bt_data] at heq
    exact heq)
  clear heq hnn hc0 h0 hw64
  go_loopw [29] (fun i wr => ∃ (q : Nat) (ms : List Int), q ≤ ptrs.length ∧ i = .int .i64 q ∧ ms.length = q ∧ numsOf (ws.take q) = some ms ∧ Hid (Below w.heap.size (setAll w (ptrs.zip ms)) wr) ∧ Hid (wr.heap[w.heap.size]? = some (.cells (((wd :: ws).map Bt).map Value.string).toArray 9 (0, 0)))) (fun i _ => ptrs.length - (intOf i).toNat)
  case atStart => exact ⟨0, [], Nat.zero_le _, rfl, rfl, rfl, Lib.hid (by rw [List.zip_nil_right]; exact HB1.out), HBk⟩
  case round =>
    obtain ⟨q, ms, hq, rfl, hms, hns, HB, HK⟩ := hrel
    by_cases hlt : q < ptrs.length
    · have hwl : ws.length = ptrs.length := by have := HN1.out; have := HNN.out; omega
      have hqw : q < ws.length := by omega
      obtain ⟨p, hpq⟩ : ∃ p, p = ptrs[q] := ⟨_, rfl⟩
      obtain ⟨x, hxq⟩ : ∃ x, ws[q]? = some x := ⟨_, List.getElem?_eq_getElem hqw⟩
      have hmem : x ∈ ws := List.mem_of_getElem? hxq
      have hpm : p ∈ ptrs := by rw [hpq]; exact List.getElem_mem hlt
      obtain ⟨hpg, hpb, cs, t, hcs, hoff⟩ := HP.out p hpm
      have hzip : ∀ y ∈ ptrs.zip ms, y.1 ∈ ptrs := fun y hy => (List.of_mem_zip hy).1
      have hgl := blk_lt HGg.out
      have hgw : wr.heap[g]? = some (.cells (ptrs.map fun p => Value.pointer (some ⟨p.1, p.2, none⟩)).toArray 90 (0, 0)) :=
        (HB.out.block g hgl).trans ((setAll_other _ _ _ (fun y hy => (HP.out _ (hzip y hy)).1)).trans HGg.out)
      have hcp : wr.cell? ⟨g, q, none⟩ = some (.pointer (some ⟨p.1, p.2, none⟩)) := by rw [show wr.cell? ⟨g, q, none⟩ = _ from blk_cell hgw q]; simp [hlt, hpq]
      have hcx : wr.cell? ⟨w.heap.size, q + 1, none⟩ = some (.string (Bt x)) := by rw [show wr.cell? ⟨w.heap.size, q + 1, none⟩ = _ from blk_cell HK.out (q + 1)]; simp [hxq]
      have hlow2 : Below w0.heap.size w0 wr := (HLow.out.trans (setAll_below _ _ _ (fun y hy => (HP.out _ (hzip y hy)).2.1))).trans ⟨HB.out.os, HB.out.tape, HB.out.output, HB.out.size, fun k hk => HB.out.block k (by have := HLow.out.size; omega)⟩
      have HGr := Lib.hid (HG0.out.below hlow2)
      have HX := Lib.hid hxq
      have HPQ := Lib.hid hpq
      have HM := Lib.hid (And.intro hms hns)
      clear hxq hpq hlow2 hzip hms hns hwl hqw
      obtain ⟨k1, k2, k3, k4, k5⟩ := scan_bounds q ptrs.length N hlt hpl HNN.out
      have hxl : x.length ≤ 1048576 := Nat.le_trans (wordsL_len 32 l x (by rw [HWL.out]; exact List.mem_cons_of_mem _ hmem)) hl
      go_wp2_with fail
      refine (number_go x (by omega) wr HGr.out).mono ?_
      rintro e w3 ⟨rfl, hb3⟩
      have HB3 := Lib.hid hb3
      obtain ⟨nv, hnv⟩ : ∃ nv, nv = (numF x).1 := ⟨_, rfl⟩
      obtain ⟨ok, hok⟩ : ∃ ok, ok = (numF x).2 := ⟨_, rfl⟩
      rw [← hnv, ← hok]
      obtain ⟨cs', hs1, hs2⟩ := setAll_shape (ptrs.zip ms) w p.1 cs t hcs
      have hpl2 := blk_lt hcs
      have hc3 : w3.heap[p.1]? = some (.cells cs' t (0, 0)) := (hb3.block p.1 (by have := HB.out.size; rw [setAll_size] at this; omega)).trans ((HB.out.block p.1 hpl2).trans hs1)
      have hcc3 : w3.cell? ⟨p.1, p.2, none⟩ = some (cs'[p.2]'(by omega)) := (blk_cell hc3 p.2).trans (Array.getElem?_eq_getElem (by omega))
      have hcf3 : w3.frozen? ⟨p.1, p.2, none⟩ = false := blk_frozen hc3 p.2
      obtain ⟨ov, hov⟩ : ∃ ov, ov = cs'[p.2]'(by omega) := ⟨_, rfl⟩
      rw [← hov] at hcc3
      have HNV := Lib.hid hnv
      have HOK := Lib.hid hok
      have HPB := Lib.hid (And.intro hpl2 hpm)
      clear hb3 hnv hok hs1 hs2 hc3 hov hpl2 hxl hmem hpm hcs hgw hcp hcx hoff
      cases ok with
      | false =>
        go_wp2_with fail
        go_ret
        have hs : scanF l word ptrs.length = none := by
          unfold scanF
          rw [HWL.out]
          show (if wd = word ∧ ws.length = ptrs.length then numsOf ws else none) = none
          split
          · rw [← List.take_append_drop (q + 1) ws]
            refine numsOf_none _ _ ?_
            rw [List.take_add_one, HX.out, Option.toList_some, numsOf_snoc, HM.out.2]
            show (if (numF x).2 = true then _ else none) = none
            rw [← HOK.out]
            rfl
          · rfl
        rw [hs]
        exact ⟨ms, rfl, by rw [HM.out.1]; exact hq, (fun ns h => by cases h), below_then HB.out (by have := HB.out.size; rw [setAll_size] at this; exact this) HB3.out⟩
      | true =>
        go_wp2_with fail
        have hns2 : numsOf (ws.take (q + 1)) = some (ms ++ [nv]) := by
          rw [List.take_add_one, HX.out, Option.toList_some, numsOf_snoc, HM.out.2]
          show (if (numF x).2 = true then _ else none) = _
          rw [← HOK.out, if_pos rfl, HNV.out]
        have hz : setAll w (ptrs.zip (ms ++ [nv])) = (setAll w (ptrs.zip ms)).setCell ⟨p.1, p.2, none⟩ (.int .i64 nv) := by
          rw [zip_snoc ms ptrs nv (by rw [HM.out.1]; exact hlt), setAll_snoc]
          simp only [HM.out.1, HPQ.out]
        have hbz : Below w.heap.size (setAll w (ptrs.zip (ms ++ [nv]))) (w3.setCell ⟨p.1, p.2, none⟩ (.int .i64 nv)) := by
          rw [hz]
          exact below_set_both (below_then HB.out (by have := HB.out.size; rw [setAll_size] at this; exact this) HB3.out) _ HPB.out.1 _
        have hk4 : (w3.setCell ⟨p.1, p.2, none⟩ (.int .i64 nv)).heap[w.heap.size]? = some (.cells (((wd :: ws).map Bt).map Value.string).toArray 9 (0, 0)) :=
          (Below.heap_setCell _ _ _ _ (by have := HPB.out.1; show w.heap.size ≠ p.1; omega)).trans ((HB3.out.block _ (blk_lt HK.out)).trans HK.out)
        go_roundw
        case rel => exact ⟨q + 1, ms ++ [nv], by omega, by go_num, by rw [List.length_append, HM.out.1]; rfl, hns2, Lib.hid hbz, Lib.hid hk4⟩
        case measure => simp [intOf]; omega
    · obtain rfl : q = ptrs.length := by omega
      have hwl : ws.length = ptrs.length := by have := HN1.out; have := HNN.out; omega
      have hs : scanF l word ptrs.length = some ms := by
        unfold scanF
        rw [HWL.out]
        show (if wd = word ∧ ws.length = ptrs.length then numsOf ws else none) = some ms
        rw [if_pos ⟨HEQ.out, hwl⟩]
        rw [← hwl, List.take_length] at hns
        exact hns
      have HS := Lib.hid hs
      have HMS := Lib.hid hms
      clear hs hms hns hwl
      go_wp2_with fail
      go_ret
      rw [HS.out]
      exact ⟨ms, rfl, Nat.le_of_eq HMS.out, (fun ns h => Option.some.inj h), HB.out⟩
end Go.Proofs.YtndojpcjhkncgaaGreatDoor.Q
end

section
namespace Go.Proofs.YtndojpcjhkncgaaGreatDoor.Q
open Go
set_option linter.unusedVariables false
set_option linter.unusedSimpArgs false
theorem parse_append : ∀ (l r : List UInt8) (acc v : Nat), Lib.parseUint10 acc l = .ok v → Lib.parseUint10 acc (l ++ r) = Lib.parseUint10 v r
  | [], r, acc, v, h => by
    simp only [Lib.parseUint10] at h
    injection h with h
    rw [h, List.nil_append]
  | c :: l, r, acc, v, h => by
    simp only [Lib.parseUint10] at h
    split at h
    · rename_i h1
      split at h
      · cases h
      · rename_i h2
        split at h
        · cases h
        · rename_i h3
          rw [List.cons_append, Lib.parseUint10, if_pos h1, if_neg h2, if_neg h3]
          exact parse_append l r _ v h
    · cases h
theorem digit_nat (d : Nat) (h : d < 10) : (UInt8.ofNat (48 + d)).toNat = 48 + d := by
  rw [UInt8.toNat_ofNat']
  omega
theorem parse_dec (u : Nat) : u ≤ 1099511627776 → Lib.parseUint10 0 (Lib.decDigits u) = .ok u := by
  induction u using Nat.strongRecOn with
  | ind u ih =>
    intro hu
    have one : ∀ (acc d : Nat), d < 10 → acc ≤ 1099511627776 → Lib.parseUint10 acc [UInt8.ofNat (48 + d)] = .ok (acc * 10 + d) := by
      intro acc d hd ha
      rw [Lib.parseUint10, digit_nat d hd, if_pos (by omega), if_neg (by omega), if_neg (by omega), Lib.parseUint10]
      congr 1
      omega
    by_cases h : u < 10
    · rw [dec_small u h, one 0 u h (by omega)]
      congr 1
      omega
    · rw [dec_big u h, parse_append _ _ 0 (u / 10) (ih (u / 10) (by omega) (by omega)), one _ _ (by omega) (by omega)]
      congr 1
      omega
theorem dec_head (u : Nat) : ∃ c r, Lib.decDigits u = c :: r ∧ 48 ≤ c.toNat ∧ c.toNat ≤ 57 := by
  induction u using Nat.strongRecOn with
  | ind u ih =>
    by_cases h : u < 10
    · exact ⟨_, [], dec_small u h, by rw [digit_nat u h]; omega, by rw [digit_nat u h]; omega⟩
    · obtain ⟨c, r, h1, h2, h3⟩ := ih (u / 10) (by omega)
      exact ⟨c, r ++ [UInt8.ofNat (48 + u % 10)], by rw [dec_big u h, h1]; rfl, h2, h3⟩
theorem dec_all (u : Nat) : ∀ c ∈ Lib.decDigits u, 48 ≤ c.toNat ∧ c.toNat ≤ 57 := by
  induction u using Nat.strongRecOn with
  | ind u ih =>
    intro c hc
    by_cases h : u < 10
    · rw [dec_small u h, List.mem_singleton] at hc
      rw [hc, digit_nat u h]
      omega
    · rw [dec_big u h] at hc
      rcases List.mem_append.mp hc with hc | hc
      · exact ih _ (by omega) c hc
      · rw [List.mem_singleton.mp hc, digit_nat _ (by omega)]
        omega
theorem itoa_all (n : Int) : ∀ c ∈ Lib.itoa n, c = 45 ∨ (48 ≤ c.toNat ∧ c.toNat ≤ 57) := by
  intro c hc
  unfold Lib.itoa at hc
  split at hc
  · rcases List.mem_cons.mp hc with rfl | hc
    · exact .inl rfl
    · exact .inr (dec_all _ c hc)
  · exact .inr (dec_all _ c hc)
theorem numIn_iff (v : Int) : numIn v = true ↔ -1099511627776 ≤ v ∧ v ≤ 1099511627776 := by simp [numIn]
theorem atoi_itoa (v : Int) (h : numIn v = true) : Lib.atoiAll (Lib.itoa v) = .ok v := by
  obtain ⟨h1, h2⟩ := (numIn_iff v).mp h
  have hmag : ∀ u : Nat, u ≤ 1099511627776 → Lib.parseMag (Lib.decDigits u) = .ok u := by
    intro u hu
    obtain ⟨c, r, hc, _⟩ := dec_head u
    rw [Lib.parseMag, if_neg (by rw [hc]; simp), parse_dec u hu]
  by_cases hv : v < 0
  · obtain ⟨u, rfl⟩ : ∃ u : Nat, v = -(u : Int) := ⟨v.natAbs, by omega⟩
    rw [show Lib.itoa (-(u : Int)) = 45 :: Lib.decDigits u by unfold Lib.itoa; rw [if_pos hv]; simp, Lib.atoiAll_minus, hmag u (by omega)]
    show (if 9223372036854775808 < u then Lib.NumEnd.range else .ok (-(u : Int))) = _
    rw [if_neg (by omega)]
  · obtain ⟨u, rfl⟩ : ∃ u : Nat, v = (u : Int) := ⟨v.natAbs, by omega⟩
    rw [show Lib.itoa (u : Int) = Lib.decDigits u by unfold Lib.itoa; rw [if_neg hv]; simp]
    obtain ⟨c, r, hc, h3, h4⟩ := dec_head u
    have hm := hmag u (by omega)
    rw [hc] at hm ⊢
    rw [Lib.atoiAll_plain c r (by omega) (by omega), hm]
    show (if 9223372036854775808 ≤ u then Lib.NumEnd.range else .ok (u : Int)) = _
    rw [if_neg (by omega)]
theorem numF_itoa (v : Int) (h : numIn v = true) : numF (Lib.itoa v) = (v, true) := by
  unfold numF
  rw [atoi_itoa v h]
  simp [h]
theorem numF_true (w : List UInt8) (h : (numF w).2 = true) : numIn (numF w).1 = true ∧ Lib.itoa (numF w).1 = w := by
  unfold numF at h ⊢
  split at h <;> simp_all
theorem numsOf_iff : ∀ (ws : List (List UInt8)) (ns : List Int), numsOf ws = some ns ↔ ws = ns.map Lib.itoa ∧ ∀ n ∈ ns, numIn n = true
  | [], ns => by
    constructor
    · intro h
      cases h
      exact ⟨rfl, fun n h => by cases h⟩
    · rintro ⟨h, _⟩
      cases ns with
      | nil => rfl
      | cons _ _ => cases h
  | w :: ws, ns => by
    constructor
    · intro h
      unfold numsOf at h
      split at h
      · rename_i hw
        obtain ⟨ms, h1, rfl⟩ := Option.map_eq_some_iff.mp h
        obtain ⟨h2, h3⟩ := (numsOf_iff ws ms).mp h1
        obtain ⟨h4, h5⟩ := numF_true w hw
        refine ⟨by rw [List.map_cons, h5, ← h2], fun n hn => ?_⟩
        rcases List.mem_cons.mp hn with rfl | hn
        · exact h4
        · exact h3 n hn
      · cases h
    · rintro ⟨h, hn⟩
      cases ns with
      | nil => cases h
      | cons n ns =>
        rw [List.map_cons] at h
        injection h with h1 h2
        have hf := numF_itoa n (hn n List.mem_cons_self)
        unfold numsOf
        rw [h1, hf, if_pos rfl, (numsOf_iff ws ns).mpr ⟨h2, fun m hm => hn m (List.mem_cons_of_mem _ hm)⟩]
        rfl
theorem words_join (c : UInt8) : ∀ (l w : List UInt8) (ws : List (List UInt8)), wordsL c l = w :: ws → l = w ++ ws.flatMap (fun x => c :: x)
  | [], w, ws, h => by cases h; rfl
  | b :: l, w, ws, h => by
    rw [wordsL] at h
    by_cases hb : b = c
    · rw [if_pos hb] at h
      injection h with h1 h2
      subst h1 h2
      cases hx : wordsL c l with
      | nil =>
        exact absurd hx (by
          cases l with
          | nil => simp [wordsL]
          | cons d l =>
            rw [wordsL]
            split
            · simp
            · split <;> simp)
      | cons a t =>
        rw [hb, List.nil_append, List.flatMap_cons, List.cons_append, ← words_join c l a t hx]
    · rw [if_neg hb] at h
      cases hx : wordsL c l with
      | nil =>
        exact absurd hx (by
          cases l with
          | nil => simp [wordsL]
          | cons d l =>
            rw [wordsL]
            split
            · simp
            · split <;> simp)
      | cons a t =>
        rw [hx] at h
        injection h with h1 h2
        subst h1 h2
        rw [List.cons_append, ← words_join c l a t hx]
theorem words_ne (c : UInt8) (l : List UInt8) : ∃ a t, wordsL c l = a :: t := by
  cases l with
  | nil => exact ⟨_, _, rfl⟩
  | cons d l =>
    rw [wordsL]
    split
    · exact ⟨_, _, rfl⟩
    · split <;> exact ⟨_, _, rfl⟩
theorem words_no (c : UInt8) : ∀ (l w : List UInt8), w ∈ wordsL c l → c ∉ w
  | [], w, h => by
    rw [wordsL, List.mem_singleton] at h
    rw [h]
    exact List.not_mem_nil
  | b :: l, w, h => by
    rw [wordsL] at h
    by_cases hb : b = c
    · rw [if_pos hb] at h
      rcases List.mem_cons.mp h with rfl | h
      · exact List.not_mem_nil
      · exact words_no c l w h
    · rw [if_neg hb] at h
      obtain ⟨a, t, hx⟩ := words_ne c l
      rw [hx] at h
      rcases List.mem_cons.mp h with rfl | h
      · intro hm
        rcases List.mem_cons.mp hm with e | hm
        · exact hb e.symm
        · exact words_no c l a (by rw [hx]; exact List.mem_cons_self) hm
      · exact words_no c l w (by rw [hx]; exact List.mem_cons_of_mem _ h)
theorem words_joined (c : UInt8) : ∀ (ws : List (List UInt8)) (w : List UInt8), c ∉ w → (∀ x ∈ ws, c ∉ x) → wordsL c (w ++ ws.flatMap (fun x => c :: x)) = w :: ws
  | [], w, hw, _ => by rw [List.flatMap_nil, List.append_nil, words_one c w hw]
  | x :: ws, w, hw, h => by
    rw [List.flatMap_cons, List.cons_append, words_cat c _ w hw, words_joined c ws x (h x List.mem_cons_self) (fun y hy => h y (List.mem_cons_of_mem _ hy))]
theorem numsL_map (ns : List Int) : numsL ns = (ns.map Lib.itoa).flatMap (fun x => 32 :: x) := by
  unfold numsL
  rw [List.flatMap_map]
theorem itoa_no (c : UInt8) (n : Int) (h : c ≠ 45) (h2 : c.toNat < 48 ∨ 57 < c.toNat) : c ∉ Lib.itoa n := by
  intro hm
  rcases itoa_all n c hm with e | e
  · exact h e
  · omega
theorem scanF_iff (l word : List UInt8) (hw : (32 : UInt8) ∉ word) (m : Nat) (ns : List Int) : scanF l word m = some ns ↔ l = word ++ numsL ns ∧ ns.length = m ∧ ∀ n ∈ ns, numIn n = true := by
  constructor
  · intro h
    unfold scanF at h
    obtain ⟨a, t, hx⟩ := words_ne 32 l
    rw [hx] at h
    have h : (if a = word ∧ t.length = m then numsOf t else none) = some ns := h
    split at h
    · rename_i hc
      obtain ⟨h1, h2⟩ := (numsOf_iff t ns).mp h
      refine ⟨?_, ?_, h2⟩
      · rw [words_join 32 l a t hx, hc.1, numsL_map, h1]
      · rw [← hc.2, h1, List.length_map]
    · cases h
  · rintro ⟨rfl, rfl, hn⟩
    unfold scanF
    rw [numsL_map, words_joined 32 _ word hw (fun x hx => by
      obtain ⟨n, _, rfl⟩ := List.mem_map.mp hx
      exact itoa_no 32 n (by decide) (by decide))]
    show (if word = word ∧ (ns.map Lib.itoa).length = ns.length then numsOf (ns.map Lib.itoa) else none) = _
    rw [if_pos ⟨rfl, List.length_map _⟩, (numsOf_iff _ ns).mpr ⟨rfl, hn⟩]
theorem words_flat (c : UInt8) (x : List UInt8) : (wordsL c x).flatMap (· ++ [c]) = x ++ [c] := by
  obtain ⟨a, t, hx⟩ := words_ne c x
  have hj := words_join c x a t hx
  rw [hx, hj]
  have gen : ∀ (t : List (List UInt8)) (a : List UInt8), (a :: t).flatMap (· ++ [c]) = a ++ t.flatMap (fun x => c :: x) ++ [c] := by
    intro t
    induction t with
    | nil => intro a; simp
    | cons b t ih =>
      intro a
      rw [List.flatMap_cons, ih b, List.flatMap_cons]
      simp
  exact gen t a
end Go.Proofs.YtndojpcjhkncgaaGreatDoor.Q
end

section
namespace Go.Proofs.YtndojpcjhkncgaaGreatDoor.Q
open Go
set_option linter.unusedVariables false
set_option linter.unusedSimpArgs false
def hexB (b : UInt8) : Bool := ([48, 49, 50, 51, 52, 53, 54, 55, 56, 57, 97, 98, 99, 100, 101, 102] : List UInt8).contains b
def closedF (l : List UInt8) : Bool := decide (l.take 4 = [69, 78, 68, 32]) && (decide (l[12]? = some 32) && (decide (l[21]? = some 10) && (((l.drop 4).take 8 ++ (l.drop 13).take 8).all hexB)))
def formB (t : List UInt8) : Bool := decide (23 ≤ t.length) && (closedF (t.drop (t.length - 22)) && decide (t[t.length - 23]? = some 10))
def linesOf (t : List UInt8) : List (List UInt8) := wordsL 10 (t.take (t.length - 23))
def lineOk (w1 : List UInt8) (m1 : Nat) (w2 : List UInt8) (m2 : Nat) (pre : List (List UInt8)) (x : List UInt8) : Bool := if pre = [] then (scanF x w1 m1).isSome else (scanF x w2 m2).isSome
def allOk (ok : List (List UInt8) → List UInt8 → Bool) : List (List UInt8) → List (List UInt8) → Bool
  | _, [] => true
  | pre, x :: r => ok pre x && allOk ok (pre ++ [x]) r
def scansF (w : List UInt8) (m : Nat) : List (List UInt8) → Option (List (List Int))
  | [] => some []
  | l :: ls => match scanF l w m, scansF w m ls with | some r, some rs => some (r :: rs) | _, _ => none
def rowsF (w1 : List UInt8) (m1 : Nat) (w2 : List UInt8) (m2 : Nat) : List (List UInt8) → Option (List Int × List (List Int))
  | [] => none
  | l :: ls => match scanF l w1 m1, scansF w2 m2 ls with | some h, some rs => some (h, rs) | _, _ => none
theorem allOk_rest (w1 : List UInt8) (m1 : Nat) (w2 : List UInt8) (m2 : Nat) : ∀ (ls pre : List (List UInt8)), pre ≠ [] → allOk (lineOk w1 m1 w2 m2) pre ls = (scansF w2 m2 ls).isSome
  | [], pre, h => rfl
  | x :: r, pre, h => by
    rw [allOk, allOk_rest w1 m1 w2 m2 r (pre ++ [x]) (by simp), lineOk, if_neg h, scansF]
    cases scanF x w2 m2 <;> cases scansF w2 m2 r <;> rfl
theorem allOk_rows (w1 : List UInt8) (m1 : Nat) (w2 : List UInt8) (m2 : Nat) (l : List UInt8) (ls : List (List UInt8)) : allOk (lineOk w1 m1 w2 m2) [] (l :: ls) = (rowsF w1 m1 w2 m2 (l :: ls)).isSome := by
  rw [allOk, allOk_rest w1 m1 w2 m2 ls _ (by simp), lineOk, if_pos rfl, rowsF]
  cases scanF l w1 m1 <;> cases scansF w2 m2 ls <;> rfl
theorem scansF_snoc (w : List UInt8) (m : Nat) : ∀ (ls : List (List UInt8)) (x : List UInt8), scansF w m (ls ++ [x]) = match scansF w m ls, scanF x w m with | some rs, some r => some (rs ++ [r]) | _, _ => none
  | [], x => by
    show (match scanF x w m, scansF w m [] with | some r, some rs => some (r :: rs) | _, _ => none) = _
    rw [scansF]
    cases scanF x w m <;> rfl
  | l :: ls, x => by
    rw [List.cons_append, scansF, scansF_snoc w m ls x, scansF]
    cases scanF l w m <;> cases scansF w m ls <;> cases scanF x w m <;> rfl
theorem scanF_len (l word : List UInt8) (m : Nat) (ns : List Int) (h : scanF l word m = some ns) : ns.length = m := by
  unfold scanF at h
  split at h
  · split at h
    · rename_i hc
      rw [numsOf_len _ _ h, hc.2]
    · cases h
  · cases h
end Go.Proofs.YtndojpcjhkncgaaGreatDoor.Q
end
