/- Part 1 of a proof: the texts Shelf, HLns, SWords, Q0, GG, HDig, HHex, HNum, HScan, SEv, QFbankcounts, HSq, QFbankdated, QFbankright, QFbankValid, QFbankRight, QFref36Valid, QFref36Right, QFbanktotal, QFbankTotal, QFref36sum, QFref36Total, SVal, put together by a program of this repo. -/
import Derived.Shelf.Strings.Builder1
import Derived.Shelf.Strings.Builder2
import Derived.Shelf.Strings.Trim
import Derived.Shelf.Small.Utf8
import Derived.Shelf.Small.Strs
import Derived.Shelf.Strings.BuilderF
import Derived.Shelf.Strings.BuilderK
import Derived.Shelf.Strings.Builder2Cap
import Derived.Shelf.Strconv.Atoi
import Derived.Shelf.Strconv.Itoa0
import Derived.Shelf.Strconv.Itoa1
import Derived.Shelf.LaysM
import Derived.Shelf.Strconv.Itoa2
import Derived.Shelf.Strconv.Itoa3
import Derived.Shelf.Strconv.AtoiErrFast
import Derived.Shelf.Strconv.ParseIntEmpty
import Derived.Shelf.Strconv.AtoiFail
import Derived.Shelf.Strconv.Clone
import Derived.Shelf.Strconv.SyntaxError
import Derived.Shelf.LaysC
import Derived.Shelf.Strconv.ToError
import Derived.Shelf.Strconv.AtoiErr
import Derived.Shelf.Strconv.ErrVar
import Derived.Shelf.Strconv.Lower
import Derived.Shelf.Strconv.ParseUint10
import Derived.Shelf.Strconv.ParseUint10Empty
import Derived.Shelf.Strconv.ParseUint10Any
import Derived.Shelf.Strconv.ParseInt10
import Derived.Shelf.Strconv.AtoiLong
import Derived.Shelf.Strconv.AtoiInnerAll
import Derived.Shelf.Strconv.RangeError
import Derived.Shelf.Strconv.ToErrorRange
import Derived.Shelf.Strconv.AtoiAll
import Derived.Shelf.Strconv.ErrVarAll
import Derived.Shelf.Strings.Search1
import Derived.Shelf.Strings.Search2
import Derived.Shelf.Strings.Search3
import Derived.Shelf.Strings.Count
import Derived.Shelf.Strings.Shaped
import Derived.Shelf.Strings.Prefix
import Derived.Shelf.Strings.Split
import Derived.Shelf.Strings.SplitShaped
import Derived.Shelf.Unicode.Decode
import Derived.Shelf.Strings.Runes
import Derived.Shelf.Strings.RuneCount
import Derived.Shelf.Strings.AsciiSet
import Derived.Shelf.Strings.Explode
import Derived.Shelf.Bits.Mul64
import Derived.Shelf.Strings.Repeat
import Derived.Shelf.Unicode.DecodeSlow
import Derived.Shelf.Strings.BuilderCap
import Derived.Test.YtndojpcjhkncgaaGreatDoorProg
import Derived.RangeFuncNested
import Derived.RangeFuncBound
import Derived.RangeFuncCalls
import Derived.RangeFuncLeaves
import Derived.Shelf.Abstract
import Derived.Shelf.RegionOpen
import Derived.WalkKit
import Derived.OwnWalkIn
import Derived.TacticsInMore
import Derived.LoopNIn
import Derived.LoopIn
import Derived.Lib.IndexLaws
import Derived.Lib.Bytealg
import Derived.Test.YtndojpcjhkncgaaGreatDoorVMSmall1
import Derived.Lib.SplitLaws
import Derived.Lib.CountLaws
import Derived.Lib.IndexBytes
import Derived.Below
import Derived.Deep.Draws
import Derived.Deep.AppendLies
import Derived.Maps.AppendAt
import Derived.OwnWalk
import Derived.Laws.BytesArg
import Derived.Laws.MakeOwn
import Derived.Laws.OwnMore
import Derived.Deep.OwnRows
import Derived.Tactics
import Derived.Lib.ConvBytes
import Derived.Laws.Slices
import Derived.KernelRfl
import Derived.RowKit3
import Derived.Deep.LoopGhost
import Derived.Deep.QuietTactic
import Derived.BigQuiet
import Derived.WideLaws
import Derived.Deep.DeepCutAuto
import Derived.Deep.CutBlock
import Derived.Deep.RegionHeld3
import Derived.Laws.Rows
import Derived.Lib.AppendStr
import Derived.ArgAppend
import Derived.Laws.IdiomCopy
import Derived.OrdersHeld
import Derived.Laws.BitsLemmas
import Derived.RowKit
import Derived.Lib.SmallJoins
import Derived.Lib.ItoaNum
import Derived.Lib.TrailingZeros
import Derived.Lib.LazyBuf
import Derived.Outline
import Derived.Lib.Hide
import Derived.WalkLawsBesides
import Derived.WalkSpells
import Derived.Laws.BytesString
import Derived.Lib.AppendIntMem
import Derived.Lib.AtoiErrMem
set_option linter.unusedVariables false
set_option linter.unusedSimpArgs false
section
namespace Go.Proofs
open Go.Shelf
section
def Tryz.lays169_ren : Go.Shelf.Ren := ⟨fun | 169 => 63 | n => n, fun | 70 => 98 | 9 => 9 | 0 => 0 | 72 => 100 | 37 => 53 | 127 => 118 | 3 => 3 | 5 => 5 | n => n, fun | n => n⟩
theorem Tryz.lays169 : Go.Proofs.Lays.n169 Tryz.prog Tryz.lays169_ren := {
  mixed := by kernel_rfl
  f169 := Tryz.func63.trans (congrArg some (by kernel_rfl))
  t0 := Tryz.underlying0
  a0 := Tryz.isAgg0
  z0 := Tryz.sizeOf0
  v0 := Tryz.zeroValue0
  t3 := Tryz.underlying3
  a3 := Tryz.isAgg3
  z3 := Tryz.sizeOf3
  v3 := Tryz.zeroValue3
  t9 := Tryz.underlying9
  a9 := Tryz.isAgg9
  z9 := Tryz.sizeOf9
  v9 := Tryz.zeroValue9
  t37 := Tryz.underlying53
  a37 := Tryz.isAgg53
  z37 := Tryz.sizeOf53
  v37 := Tryz.zeroValue53
  t70 := Tryz.underlying98
  a70 := Tryz.isAgg98
  z70 := Tryz.sizeOf98
  v70 := Tryz.zeroValue98
  t72 := Tryz.underlying100
  a72 := Tryz.isAgg100
  z72 := Tryz.sizeOf100
  v72 := Tryz.zeroValue100
  t127 := Tryz.underlying118
  a127 := Tryz.isAgg118
  z127 := Tryz.sizeOf118
  v127 := Tryz.zeroValue118 }
theorem Tryz.Builder_Extra_169 : Builder.Extra Tryz.prog Tryz.lays169_ren := {
  sizeBuilder := by kernel_rfl
  liesBuilder := by kernel_rfl
  t5 := Tryz.underlying5
  a5 := Tryz.isAgg5
  z5 := Tryz.sizeOf5
  v5 := Tryz.zeroValue5
  infoByte := by kernel_rfl
  cellsByte := by kernel_rfl
  sizeByte := by kernel_rfl
  neB5 := by decide }
def Tryz.lays160_ren : Go.Shelf.Ren := ⟨fun | 160 => 75 | 232 => 86 | 231 => 85 | 227 => 87 | 234 => 89 | 233 => 88 | 236 => 91 | 235 => 90 | 228 => 109 | 271 => 112 | 151 => 111 | 197 => 110 | 120 => 134 | 152 => 133 | 260 => 132 | 137 => 93 | 119 => 145 | 224 => 137 | 225 => 136 | 217 => 113 | 266 => 135 | n => n, fun | 9 => 9 | 4 => 4 | 3 => 3 | 5 => 5 | 117 => 132 | 116 => 131 | 0 => 0 | 124 => 135 | 21 => 21 | 105 => 151 | 46 => 114 | 119 => 178 | 139 => 181 | 138 => 180 | n => n, fun | 3 => 4 | 4 => 5 | n => n⟩
theorem Tryz.lays160 : Go.Proofs.Lays.n160 Tryz.prog Tryz.lays160_ren := {
  mixed := by kernel_rfl
  f119 := Tryz.func145.trans (congrArg some (by kernel_rfl))
  f120 := Tryz.func134.trans (congrArg some (by kernel_rfl))
  f137 := Tryz.func93.trans (congrArg some (by kernel_rfl))
  f151 := Tryz.func111.trans (congrArg some (by kernel_rfl))
  f152 := Tryz.func133.trans (congrArg some (by kernel_rfl))
  f160 := Tryz.func75.trans (congrArg some (by kernel_rfl))
  f197 := Tryz.func110.trans (congrArg some (by kernel_rfl))
  f217 := Tryz.func113.trans (congrArg some (by kernel_rfl))
  f224 := Tryz.func137.trans (congrArg some (by kernel_rfl))
  f225 := Tryz.func136.trans (congrArg some (by kernel_rfl))
  f227 := Tryz.func87.trans (congrArg some (by kernel_rfl))
  f228 := Tryz.func109.trans (congrArg some (by kernel_rfl))
  f231 := Tryz.func85.trans (congrArg some (by kernel_rfl))
  f232 := Tryz.func86.trans (congrArg some (by kernel_rfl))
  f233 := Tryz.func88.trans (congrArg some (by kernel_rfl))
  f234 := Tryz.func89.trans (congrArg some (by kernel_rfl))
  f235 := Tryz.func90.trans (congrArg some (by kernel_rfl))
  f236 := Tryz.func91.trans (congrArg some (by kernel_rfl))
  f260 := Tryz.func132.trans (congrArg some (by kernel_rfl))
  f266 := Tryz.func135.trans (congrArg some (by kernel_rfl))
  f271 := Tryz.func112.trans (congrArg some (by kernel_rfl))
  t0 := Tryz.underlying0
  a0 := Tryz.isAgg0
  z0 := Tryz.sizeOf0
  v0 := Tryz.zeroValue0
  t3 := Tryz.underlying3
  a3 := Tryz.isAgg3
  z3 := Tryz.sizeOf3
  v3 := Tryz.zeroValue3
  t4 := Tryz.underlying4
  a4 := Tryz.isAgg4
  z4 := Tryz.sizeOf4
  v4 := Tryz.zeroValue4
  t5 := Tryz.underlying5
  a5 := Tryz.isAgg5
  z5 := Tryz.sizeOf5
  v5 := Tryz.zeroValue5
  t9 := Tryz.underlying9
  a9 := Tryz.isAgg9
  z9 := Tryz.sizeOf9
  v9 := Tryz.zeroValue9
  t21 := Tryz.underlying21
  a21 := Tryz.isAgg21
  z21 := Tryz.sizeOf21
  v21 := Tryz.zeroValue21
  t46 := Tryz.underlying114
  a46 := Tryz.isAgg114
  z46 := Tryz.sizeOf114
  v46 := Tryz.zeroValue114
  t105 := Tryz.underlying151
  a105 := Tryz.isAgg151
  z105 := Tryz.sizeOf151
  v105 := Tryz.zeroValue151
  t116 := Tryz.underlying131
  a116 := Tryz.isAgg131
  z116 := Tryz.sizeOf131
  t117 := Tryz.underlying132
  a117 := Tryz.isAgg132
  z117 := Tryz.sizeOf132
  v117 := Tryz.zeroValue132
  t119 := Tryz.underlying178
  a119 := Tryz.isAgg178
  z119 := Tryz.sizeOf178
  t124 := Tryz.underlying135
  a124 := Tryz.isAgg135
  z124 := Tryz.sizeOf135
  v124 := Tryz.zeroValue135
  t138 := Tryz.underlying180
  a138 := Tryz.isAgg180
  z138 := Tryz.sizeOf180
  v138 := Tryz.zeroValue180
  t139 := Tryz.underlying181
  a139 := Tryz.isAgg181
  z139 := Tryz.sizeOf181
  v139 := Tryz.zeroValue181
  g3 := by kernel_rfl
  g4 := by kernel_rfl }
def Tryz.lays137_ren : Go.Shelf.Ren := ⟨fun | 137 => 93 | 217 => 113 | 266 => 135 | n => n, fun | 9 => 9 | 5 => 5 | 3 => 3 | n => n, fun | n => n⟩
theorem Tryz.lays137 : Go.Proofs.Lays.n137 Tryz.prog Tryz.lays137_ren := {
  mixed := by kernel_rfl
  f137 := Tryz.func93.trans (congrArg some (by kernel_rfl))
  f217 := Tryz.func113.trans (congrArg some (by kernel_rfl))
  f266 := Tryz.func135.trans (congrArg some (by kernel_rfl))
  t3 := Tryz.underlying3
  a3 := Tryz.isAgg3
  z3 := Tryz.sizeOf3
  v3 := Tryz.zeroValue3
  t5 := Tryz.underlying5
  a5 := Tryz.isAgg5
  z5 := Tryz.sizeOf5
  v5 := Tryz.zeroValue5
  t9 := Tryz.underlying9
  a9 := Tryz.isAgg9
  z9 := Tryz.sizeOf9
  v9 := Tryz.zeroValue9 }
open Go.RowKit in
theorem Tryz.strings_IndexByte (s : ByteArray) (c : Int) (w : World) :
    Calls Tryz.prog 93 #[.string s, .int .u8 c] w fun e w' => e = .returned (.int .i64 (Lib.indexByte s.data.toList c.toNat.toUInt8)) ∧ w' = w := Any.strings_IndexByte Tryz.lays137 s c w
open Go.RowKit in
theorem Tryz.Builder_String_any_k (B b : Nat) (l : List UInt8) (w : World) (h : Lib.IsBuilderF 100 5 B b (Lib.byteCells l) w) (hBw : B ≤ w.heap.size) :
    Calls Tryz.prog 63 #[.pointer (some ⟨b, 0, none⟩)] w fun e w' => e = .returned (.string ⟨l.toArray⟩) ∧ (Lib.IsBuilderF 100 5 B b (Lib.byteCells l) w' ∧ Below B w w' ∧ Lib.OthersKept 5 (some b) w w') := Any.Builder_String_any_k Tryz.lays169 Tryz.Builder_Extra_169 B b l w h hBw
def Tryz.laysM171_ren : Go.Shelf.Ren := ⟨fun | 171 => 62 | 243 => 73 | 246 => 82 | 283 => 100 | 284 => 101 | 285 => 102 | 286 => 103 | 129 => 124 | 317 => 123 | 318 => 125 | 319 => 126 | 320 => 127 | 337 => 142 | 338 => 143 | n => n, fun | 3 => 3 | 9 => 9 | 2 => 2 | 4 => 4 | 171 => 140 | 0 => 0 | 53 => 127 | 37 => 53 | 5 => 5 | 173 => 143 | 212 => 163 | 51 => 119 | 20 => 20 | 213 => 164 | 46 => 114 | 232 => 188 | 233 => 189 | n => n, fun | 17 => 0 | 18 => 6 | 19 => 7 | n => n⟩
theorem Tryz.laysM171 : Go.Proofs.LaysM.n171 Tryz.prog Tryz.laysM171_ren := {
  mixed := by kernel_rfl
  f129 := Tryz.func124.trans (congrArg some (by kernel_rfl))
  f171 := Tryz.func62.trans (congrArg some (by kernel_rfl))
  f243 := Tryz.func73.trans (congrArg some (by kernel_rfl))
  f246 := Tryz.func82.trans (congrArg some (by kernel_rfl))
  f283 := Tryz.func100.trans (congrArg some (by kernel_rfl))
  f284 := Tryz.func101.trans (congrArg some (by kernel_rfl))
  f285 := Tryz.func102.trans (congrArg some (by kernel_rfl))
  f286 := Tryz.func103.trans (congrArg some (by kernel_rfl))
  f317 := Tryz.func123.trans (congrArg some (by kernel_rfl))
  f318 := Tryz.func125.trans (congrArg some (by kernel_rfl))
  f319 := Tryz.func126.trans (congrArg some (by kernel_rfl))
  f320 := Tryz.func127.trans (congrArg some (by kernel_rfl))
  f337 := Tryz.func142.trans (congrArg some (by kernel_rfl))
  f338 := Tryz.func143.trans (congrArg some (by kernel_rfl))
  t0 := Tryz.underlying0
  a0 := Tryz.isAgg0
  z0 := Tryz.sizeOf0
  v0 := Tryz.zeroValue0
  t2 := Tryz.underlying2
  a2 := Tryz.isAgg2
  z2 := Tryz.sizeOf2
  v2 := Tryz.zeroValue2
  t3 := Tryz.underlying3
  a3 := Tryz.isAgg3
  z3 := Tryz.sizeOf3
  v3 := Tryz.zeroValue3
  t4 := Tryz.underlying4
  a4 := Tryz.isAgg4
  z4 := Tryz.sizeOf4
  v4 := Tryz.zeroValue4
  t5 := Tryz.underlying5
  a5 := Tryz.isAgg5
  z5 := Tryz.sizeOf5
  v5 := Tryz.zeroValue5
  t9 := Tryz.underlying9
  a9 := Tryz.isAgg9
  z9 := Tryz.sizeOf9
  v9 := Tryz.zeroValue9
  t20 := Tryz.underlying20
  a20 := Tryz.isAgg20
  z20 := Tryz.sizeOf20
  v20 := Tryz.zeroValue20
  t37 := Tryz.underlying53
  a37 := Tryz.isAgg53
  z37 := Tryz.sizeOf53
  v37 := Tryz.zeroValue53
  t46 := Tryz.underlying114
  a46 := Tryz.isAgg114
  z46 := Tryz.sizeOf114
  v46 := Tryz.zeroValue114
  t51 := Tryz.underlying119
  a51 := Tryz.isAgg119
  z51 := Tryz.sizeOf119
  v51 := Tryz.zeroValue119
  t53 := Tryz.underlying127
  a53 := Tryz.isAgg127
  z53 := Tryz.sizeOf127
  v53 := Tryz.zeroValue127
  t171 := Tryz.underlying140
  a171 := Tryz.isAgg140
  z171 := Tryz.sizeOf140
  v171 := Tryz.zeroValue140
  t173 := Tryz.underlying143
  a173 := Tryz.isAgg143
  z173 := Tryz.sizeOf143
  v173 := Tryz.zeroValue143
  t212 := Tryz.underlying163
  a212 := Tryz.isAgg163
  z212 := Tryz.sizeOf163
  v212 := Tryz.zeroValue163
  t213 := Tryz.underlying164
  a213 := Tryz.isAgg164
  z213 := Tryz.sizeOf164
  t232 := Tryz.underlying188
  a232 := Tryz.isAgg188
  z232 := Tryz.sizeOf188
  v232 := Tryz.zeroValue188
  t233 := Tryz.underlying189
  a233 := Tryz.isAgg189
  z233 := Tryz.sizeOf189
  v233 := Tryz.zeroValue189
  g17 := by kernel_rfl
  g18 := by kernel_rfl
  g19 := by kernel_rfl
  i0 := by kernel_rfl
  i2 := by kernel_rfl
  i3 := by kernel_rfl
  i4 := by kernel_rfl
  i5 := by kernel_rfl
  i9 := by kernel_rfl
  i20 := by kernel_rfl
  i37 := by kernel_rfl
  i46 := by kernel_rfl
  i51 := by kernel_rfl
  i53 := by kernel_rfl
  i171 := by kernel_rfl
  i173 := by kernel_rfl
  i212 := by kernel_rfl
  i232 := by kernel_rfl
  i233 := by kernel_rfl
  m17 := by kernel_rfl
  m18 := by kernel_rfl
  m19 := by kernel_rfl }
open Go.RowKit Go.Sort Go.Lib in
theorem Tryz.strconv_Itoa (n : Int) (h0 : -9223372036854775808 ≤ n) (h1 : n ≤ 9223372036854775807) (w : World) (htab : Lib.TabIs Tryz.prog w "internal/strconv.uint64pow10" .u64 Lib.pow10Tab) :
    Calls Tryz.prog 62 #[.int .i64 n] w fun e w' => e = .returned (.string ⟨(Lib.itoa n).toArray⟩) ∧ ∃ k os, w' = grow (w.drewN k) os := Any.strconv_Itoa Tryz.laysM171 n h0 h1 w htab
def Tryz.laysC172_ren : Go.Shelf.Ren := ⟨fun | 172 => 80 | 244 => 98 | 245 => 99 | 247 => 118 | 279 => 119 | 280 => 120 | 281 => 121 | 282 => 122 | 287 => 139 | 316 => 140 | 171 => 62 | 205 => 141 | 321 => 147 | 322 => 148 | 243 => 73 | 246 => 82 | 283 => 100 | 284 => 101 | 285 => 102 | 286 => 103 | 129 => 124 | 317 => 123 | 318 => 125 | 319 => 126 | 320 => 127 | 337 => 142 | 338 => 143 | n => n, fun | 9 => 9 | 3 => 3 | 75 => 102 | 76 => 103 | 4 => 4 | 5 => 5 | 167 => 155 | 37 => 53 | 0 => 0 | 85 => 156 | 2 => 2 | 168 => 158 | 53 => 127 | 175 => 171 | 46 => 114 | 210 => 174 | 127 => 118 | 145 => 187 | 143 => 185 | 21 => 21 | 171 => 140 | 173 => 143 | 212 => 163 | 51 => 119 | 20 => 20 | 213 => 164 | 232 => 188 | 233 => 189 | 80 => 106 | n => n, fun | 15 => 2 | 16 => 3 | 17 => 0 | 18 => 6 | 19 => 7 | n => n⟩
theorem Tryz.laysC172 : Go.Proofs.LaysC.n172 Tryz.prog Tryz.laysC172_ren := {
  mixed := by kernel_rfl
  f129 := Tryz.func124.trans (congrArg some (by kernel_rfl))
  f171 := Tryz.func62.trans (congrArg some (by kernel_rfl))
  f172 := Tryz.func80.trans (congrArg some (by kernel_rfl))
  f205 := Tryz.func141.trans (congrArg some (by kernel_rfl))
  f243 := Tryz.func73.trans (congrArg some (by kernel_rfl))
  f244 := Tryz.func98.trans (congrArg some (by kernel_rfl))
  f245 := Tryz.func99.trans (congrArg some (by kernel_rfl))
  f246 := Tryz.func82.trans (congrArg some (by kernel_rfl))
  f247 := Tryz.func118.trans (congrArg some (by kernel_rfl))
  f279 := Tryz.func119.trans (congrArg some (by kernel_rfl))
  f280 := Tryz.func120.trans (congrArg some (by kernel_rfl))
  f281 := Tryz.func121.trans (congrArg some (by kernel_rfl))
  f282 := Tryz.func122.trans (congrArg some (by kernel_rfl))
  f283 := Tryz.func100.trans (congrArg some (by kernel_rfl))
  f284 := Tryz.func101.trans (congrArg some (by kernel_rfl))
  f285 := Tryz.func102.trans (congrArg some (by kernel_rfl))
  f286 := Tryz.func103.trans (congrArg some (by kernel_rfl))
  f287 := Tryz.func139.trans (congrArg some (by kernel_rfl))
  f316 := Tryz.func140.trans (congrArg some (by kernel_rfl))
  f317 := Tryz.func123.trans (congrArg some (by kernel_rfl))
  f318 := Tryz.func125.trans (congrArg some (by kernel_rfl))
  f319 := Tryz.func126.trans (congrArg some (by kernel_rfl))
  f320 := Tryz.func127.trans (congrArg some (by kernel_rfl))
  f321 := Tryz.func147.trans (congrArg some (by kernel_rfl))
  f322 := Tryz.func148.trans (congrArg some (by kernel_rfl))
  f337 := Tryz.func142.trans (congrArg some (by kernel_rfl))
  f338 := Tryz.func143.trans (congrArg some (by kernel_rfl))
  t0 := Tryz.underlying0
  a0 := Tryz.isAgg0
  z0 := Tryz.sizeOf0
  v0 := Tryz.zeroValue0
  t2 := Tryz.underlying2
  a2 := Tryz.isAgg2
  z2 := Tryz.sizeOf2
  v2 := Tryz.zeroValue2
  t3 := Tryz.underlying3
  a3 := Tryz.isAgg3
  z3 := Tryz.sizeOf3
  v3 := Tryz.zeroValue3
  t4 := Tryz.underlying4
  a4 := Tryz.isAgg4
  z4 := Tryz.sizeOf4
  v4 := Tryz.zeroValue4
  t5 := Tryz.underlying5
  a5 := Tryz.isAgg5
  z5 := Tryz.sizeOf5
  v5 := Tryz.zeroValue5
  t9 := Tryz.underlying9
  a9 := Tryz.isAgg9
  z9 := Tryz.sizeOf9
  v9 := Tryz.zeroValue9
  t20 := Tryz.underlying20
  a20 := Tryz.isAgg20
  z20 := Tryz.sizeOf20
  v20 := Tryz.zeroValue20
  t21 := Tryz.underlying21
  a21 := Tryz.isAgg21
  z21 := Tryz.sizeOf21
  v21 := Tryz.zeroValue21
  t37 := Tryz.underlying53
  a37 := Tryz.isAgg53
  z37 := Tryz.sizeOf53
  v37 := Tryz.zeroValue53
  t46 := Tryz.underlying114
  a46 := Tryz.isAgg114
  z46 := Tryz.sizeOf114
  v46 := Tryz.zeroValue114
  t51 := Tryz.underlying119
  a51 := Tryz.isAgg119
  z51 := Tryz.sizeOf119
  v51 := Tryz.zeroValue119
  t53 := Tryz.underlying127
  a53 := Tryz.isAgg127
  z53 := Tryz.sizeOf127
  v53 := Tryz.zeroValue127
  t75 := Tryz.underlying102
  a75 := Tryz.isAgg102
  z75 := Tryz.sizeOf102
  v75 := Tryz.zeroValue102
  t76 := Tryz.underlying103
  a76 := Tryz.isAgg103
  z76 := Tryz.sizeOf103
  v76 := Tryz.zeroValue103
  t85 := Tryz.underlying156
  a85 := Tryz.isAgg156
  z85 := Tryz.sizeOf156
  v85 := Tryz.zeroValue156
  t127 := Tryz.underlying118
  a127 := Tryz.isAgg118
  z127 := Tryz.sizeOf118
  v127 := Tryz.zeroValue118
  t143 := Tryz.underlying185
  a143 := Tryz.isAgg185
  z143 := Tryz.sizeOf185
  v143 := Tryz.zeroValue185
  t145 := Tryz.underlying187
  a145 := Tryz.isAgg187
  z145 := Tryz.sizeOf187
  v145 := Tryz.zeroValue187
  t167 := Tryz.underlying155
  a167 := Tryz.isAgg155
  z167 := Tryz.sizeOf155
  v167 := Tryz.zeroValue155
  t168 := Tryz.underlying158
  a168 := Tryz.isAgg158
  z168 := Tryz.sizeOf158
  v168 := Tryz.zeroValue158
  t171 := Tryz.underlying140
  a171 := Tryz.isAgg140
  z171 := Tryz.sizeOf140
  v171 := Tryz.zeroValue140
  t173 := Tryz.underlying143
  a173 := Tryz.isAgg143
  z173 := Tryz.sizeOf143
  v173 := Tryz.zeroValue143
  t175 := Tryz.underlying171
  a175 := Tryz.isAgg171
  z175 := Tryz.sizeOf171
  v175 := Tryz.zeroValue171
  t210 := Tryz.underlying174
  a210 := Tryz.isAgg174
  z210 := Tryz.sizeOf174
  v210 := Tryz.zeroValue174
  t212 := Tryz.underlying163
  a212 := Tryz.isAgg163
  z212 := Tryz.sizeOf163
  v212 := Tryz.zeroValue163
  t213 := Tryz.underlying164
  a213 := Tryz.isAgg164
  z213 := Tryz.sizeOf164
  t232 := Tryz.underlying188
  a232 := Tryz.isAgg188
  z232 := Tryz.sizeOf188
  v232 := Tryz.zeroValue188
  t233 := Tryz.underlying189
  a233 := Tryz.isAgg189
  z233 := Tryz.sizeOf189
  v233 := Tryz.zeroValue189
  g15 := by kernel_rfl
  g16 := by kernel_rfl
  g17 := by kernel_rfl
  g18 := by kernel_rfl
  g19 := by kernel_rfl
  t80 := Tryz.underlying106
  a80 := Tryz.isAgg106
  z80 := Tryz.sizeOf106
  v80 := Tryz.zeroValue106
  i0 := by kernel_rfl
  i2 := by kernel_rfl
  i3 := by kernel_rfl
  i4 := by kernel_rfl
  i5 := by kernel_rfl
  i9 := by kernel_rfl
  i20 := by kernel_rfl
  i21 := by kernel_rfl
  i37 := by kernel_rfl
  i46 := by kernel_rfl
  i51 := by kernel_rfl
  i53 := by kernel_rfl
  i75 := by kernel_rfl
  i76 := by kernel_rfl
  i80 := by kernel_rfl
  i85 := by kernel_rfl
  i127 := by kernel_rfl
  i143 := by kernel_rfl
  i145 := by kernel_rfl
  i167 := by kernel_rfl
  i168 := by kernel_rfl
  i171 := by kernel_rfl
  i173 := by kernel_rfl
  i175 := by kernel_rfl
  i210 := by kernel_rfl
  i212 := by kernel_rfl
  i232 := by kernel_rfl
  i233 := by kernel_rfl
  m15 := by kernel_rfl
  m16 := by kernel_rfl
  m17 := by kernel_rfl
  m18 := by kernel_rfl
  m19 := by kernel_rfl
  c0 := by kernel_rfl
  c2 := by kernel_rfl
  c3 := by kernel_rfl
  c4 := by kernel_rfl
  c5 := by kernel_rfl
  c9 := by kernel_rfl
  c20 := by kernel_rfl
  c21 := by kernel_rfl
  c37 := by kernel_rfl
  c46 := by kernel_rfl
  c51 := by kernel_rfl
  c53 := by kernel_rfl
  c75 := by kernel_rfl
  c76 := by kernel_rfl
  c80 := by kernel_rfl
  c85 := by kernel_rfl
  c127 := by kernel_rfl
  c143 := by kernel_rfl
  c145 := by kernel_rfl
  c167 := by kernel_rfl
  c168 := by kernel_rfl
  c171 := by kernel_rfl
  c173 := by kernel_rfl
  c175 := by kernel_rfl
  c210 := by kernel_rfl
  c212 := by kernel_rfl
  c213 := by kernel_rfl
  c232 := by kernel_rfl
  c233 := by kernel_rfl }
open Go.RowKit in
theorem Tryz.strconv_Atoi_ok (s : ByteArray) (hmax : s.size ≤ 9223372036854775806) (v : Int) (h : Lib.atoiAll s.data.toList = .ok v) (w : World) :
    Calls Tryz.prog 80 #[.string s] w fun e w' => e = .returned (.tuple #[.int .i64 v, .nilIface]) ∧ (w' = w ∨ ∃ t, w' = Lib.bytesWorld w 5 t) := Any.strconv_Atoi_ok Tryz.laysC172 s hmax v h w
open Go.RowKit in
theorem Tryz.strconv_Atoi_range (s : ByteArray) (hlim : s.size ≤ 281474976710656) (h : Lib.atoiAll s.data.toList = .range) (ev : Value) (w : World) (hv : w.cell? ⟨3, 0, none⟩ = some ev) (hev : ev = .nilIface ∨ ∃ te pe, ev = .iface te pe) :
    Calls Tryz.prog 80 #[.string s] w fun e w' => ∃ N, e = .returned (.tuple #[.int .i64 (Lib.atoiSat s.data.toList), .iface 158 (.pointer (some ⟨N, 0, none⟩))]) ∧ w.heap.size ≤ N ∧ w'.heap[N]? = some (.cells #[.string ⟨#[65, 116, 111, 105]⟩, .string s, ev] 174 (0, 0)) ∧ Below w.heap.size w w' := Any.strconv_Atoi_range Tryz.laysC172 s hlim h ev w hv hev
def Tryz.lays102_ren : Go.Shelf.Ren := ⟨fun | 102 => 78 | 209 => 94 | 207 => 114 | n => n, fun | 9 => 9 | 4 => 4 | 3 => 3 | n => n, fun | n => n⟩
theorem Tryz.lays102 : Go.Proofs.Lays.n102 Tryz.prog Tryz.lays102_ren := {
  mixed := by kernel_rfl
  f102 := Tryz.func78.trans (congrArg some (by kernel_rfl))
  f207 := Tryz.func114.trans (congrArg some (by kernel_rfl))
  f209 := Tryz.func94.trans (congrArg some (by kernel_rfl))
  t3 := Tryz.underlying3
  a3 := Tryz.isAgg3
  z3 := Tryz.sizeOf3
  v3 := Tryz.zeroValue3
  t4 := Tryz.underlying4
  a4 := Tryz.isAgg4
  z4 := Tryz.sizeOf4
  v4 := Tryz.zeroValue4
  t9 := Tryz.underlying9
  a9 := Tryz.isAgg9
  z9 := Tryz.sizeOf9
  v9 := Tryz.zeroValue9 }
open Go.RowKit Go.Lib in
theorem Tryz.strings_TrimSuffix (s p : ByteArray) (w : World) (hs : s.size ≤ 9223372036854775807) :
    Calls Tryz.prog 78 #[.string s, .string p] w fun e w' => e = .returned (.string ⟨(Lib.trimSuffix s.data.toList p.data.toList).toArray⟩) ∧ w' = w := Any.strings_TrimSuffix Tryz.lays102 s p w hs
def Tryz.lays146_ren : Go.Shelf.Ren := ⟨fun | 146 => 67 | 221 => 79 | 268 => 95 | 138 => 96 | 143 => 97 | 195 => 115 | 197 => 110 | 218 => 116 | 219 => 117 | 260 => 132 | 217 => 113 | 225 => 136 | 224 => 137 | 267 => 138 | 266 => 135 | 314 => 146 | n => n, fun | 9 => 9 | 31 => 111 | 3 => 3 | 4 => 4 | 0 => 0 | 105 => 151 | 21 => 21 | 5 => 5 | 46 => 114 | 119 => 178 | 139 => 181 | 138 => 180 | 146 => 166 | 51 => 119 | n => n, fun | 1 => 1 | 3 => 4 | 4 => 5 | n => n⟩
theorem Tryz.lays146 : Go.Proofs.Lays.n146 Tryz.prog Tryz.lays146_ren := {
  mixed := by kernel_rfl
  f138 := Tryz.func96.trans (congrArg some (by kernel_rfl))
  f143 := Tryz.func97.trans (congrArg some (by kernel_rfl))
  f146 := Tryz.func67.trans (congrArg some (by kernel_rfl))
  f195 := Tryz.func115.trans (congrArg some (by kernel_rfl))
  f197 := Tryz.func110.trans (congrArg some (by kernel_rfl))
  f217 := Tryz.func113.trans (congrArg some (by kernel_rfl))
  f218 := Tryz.func116.trans (congrArg some (by kernel_rfl))
  f219 := Tryz.func117.trans (congrArg some (by kernel_rfl))
  f221 := Tryz.func79.trans (congrArg some (by kernel_rfl))
  f224 := Tryz.func137.trans (congrArg some (by kernel_rfl))
  f225 := Tryz.func136.trans (congrArg some (by kernel_rfl))
  f260 := Tryz.func132.trans (congrArg some (by kernel_rfl))
  f266 := Tryz.func135.trans (congrArg some (by kernel_rfl))
  f267 := Tryz.func138.trans (congrArg some (by kernel_rfl))
  f268 := Tryz.func95.trans (congrArg some (by kernel_rfl))
  f314 := Tryz.func146.trans (congrArg some (by kernel_rfl))
  t0 := Tryz.underlying0
  a0 := Tryz.isAgg0
  z0 := Tryz.sizeOf0
  v0 := Tryz.zeroValue0
  t3 := Tryz.underlying3
  a3 := Tryz.isAgg3
  z3 := Tryz.sizeOf3
  v3 := Tryz.zeroValue3
  t4 := Tryz.underlying4
  a4 := Tryz.isAgg4
  z4 := Tryz.sizeOf4
  v4 := Tryz.zeroValue4
  t5 := Tryz.underlying5
  a5 := Tryz.isAgg5
  z5 := Tryz.sizeOf5
  v5 := Tryz.zeroValue5
  t9 := Tryz.underlying9
  a9 := Tryz.isAgg9
  z9 := Tryz.sizeOf9
  v9 := Tryz.zeroValue9
  t21 := Tryz.underlying21
  a21 := Tryz.isAgg21
  z21 := Tryz.sizeOf21
  v21 := Tryz.zeroValue21
  t31 := Tryz.underlying111
  a31 := Tryz.isAgg111
  z31 := Tryz.sizeOf111
  v31 := Tryz.zeroValue111
  t46 := Tryz.underlying114
  a46 := Tryz.isAgg114
  z46 := Tryz.sizeOf114
  v46 := Tryz.zeroValue114
  t51 := Tryz.underlying119
  a51 := Tryz.isAgg119
  z51 := Tryz.sizeOf119
  v51 := Tryz.zeroValue119
  t105 := Tryz.underlying151
  a105 := Tryz.isAgg151
  z105 := Tryz.sizeOf151
  v105 := Tryz.zeroValue151
  t119 := Tryz.underlying178
  a119 := Tryz.isAgg178
  z119 := Tryz.sizeOf178
  t138 := Tryz.underlying180
  a138 := Tryz.isAgg180
  z138 := Tryz.sizeOf180
  v138 := Tryz.zeroValue180
  t139 := Tryz.underlying181
  a139 := Tryz.isAgg181
  z139 := Tryz.sizeOf181
  v139 := Tryz.zeroValue181
  t146 := Tryz.underlying166
  a146 := Tryz.isAgg166
  z146 := Tryz.sizeOf166
  v146 := Tryz.zeroValue166
  g1 := by kernel_rfl
  g3 := by kernel_rfl
  g4 := by kernel_rfl }
open Go.RowKit Go.Lib in
theorem Tryz.strings_Split (s sep : ByteArray) (m : Int) (w : World) (hs : s.size < 4294967281) (hm : w.cell? ⟨1, 0, none⟩ = some (.int .i64 m)) (h1 : 1 ≤ sep.size) :
    Calls Tryz.prog 67 #[.string s, .string sep] w fun e w' =>
      e = .returned (.slice (some ⟨w.heap.size, 0, none⟩) (Lib.countB s sep + 1) (Lib.countB s sep + 1)) ∧ w' = w.alloc (.cells ((Lib.splitB sep 0 (Lib.countB s sep) s).map Value.string).toArray 9) := Any.strings_Split Tryz.lays146 (by kernel_rfl) s sep m w hs hm h1
def Tryz.lays105_ren : Go.Shelf.Ren := ⟨fun | 105 => 84 | 212 => 105 | 99 => 106 | 165 => 107 | 166 => 60 | 170 => 108 | 169 => 63 | 263 => 128 | 264 => 129 | 206 => 130 | 240 => 72 | 241 => 131 | 276 => 81 | 277 => 144 | n => n, fun | 9 => 9 | 3 => 3 | 4 => 4 | 20 => 20 | 0 => 0 | 46 => 114 | 109 => 145 | 5 => 5 | 72 => 100 | 76 => 103 | 51 => 119 | 146 => 166 | 53 => 127 | 148 => 168 | 70 => 98 | 37 => 53 | 75 => 102 | 127 => 118 | 164 => 123 | 80 => 106 | n => n, fun | n => n⟩
theorem Tryz.lays105 : Go.Proofs.Lays.n105 Tryz.prog Tryz.lays105_ren := {
  mixed := by kernel_rfl
  f99 := Tryz.func106.trans (congrArg some (by kernel_rfl))
  f105 := Tryz.func84.trans (congrArg some (by kernel_rfl))
  f165 := Tryz.func107.trans (congrArg some (by kernel_rfl))
  f166 := Tryz.func60.trans (congrArg some (by kernel_rfl))
  f169 := Tryz.func63.trans (congrArg some (by kernel_rfl))
  f170 := Tryz.func108.trans (congrArg some (by kernel_rfl))
  f206 := Tryz.func130.trans (congrArg some (by kernel_rfl))
  f212 := Tryz.func105.trans (congrArg some (by kernel_rfl))
  f240 := Tryz.func72.trans (congrArg some (by kernel_rfl))
  f241 := Tryz.func131.trans (congrArg some (by kernel_rfl))
  f263 := Tryz.func128.trans (congrArg some (by kernel_rfl))
  f264 := Tryz.func129.trans (congrArg some (by kernel_rfl))
  f276 := Tryz.func81.trans (congrArg some (by kernel_rfl))
  f277 := Tryz.func144.trans (congrArg some (by kernel_rfl))
  t0 := Tryz.underlying0
  a0 := Tryz.isAgg0
  z0 := Tryz.sizeOf0
  v0 := Tryz.zeroValue0
  t3 := Tryz.underlying3
  a3 := Tryz.isAgg3
  z3 := Tryz.sizeOf3
  v3 := Tryz.zeroValue3
  t4 := Tryz.underlying4
  a4 := Tryz.isAgg4
  z4 := Tryz.sizeOf4
  v4 := Tryz.zeroValue4
  t5 := Tryz.underlying5
  a5 := Tryz.isAgg5
  z5 := Tryz.sizeOf5
  v5 := Tryz.zeroValue5
  t9 := Tryz.underlying9
  a9 := Tryz.isAgg9
  z9 := Tryz.sizeOf9
  v9 := Tryz.zeroValue9
  t20 := Tryz.underlying20
  a20 := Tryz.isAgg20
  z20 := Tryz.sizeOf20
  v20 := Tryz.zeroValue20
  t37 := Tryz.underlying53
  a37 := Tryz.isAgg53
  z37 := Tryz.sizeOf53
  v37 := Tryz.zeroValue53
  t46 := Tryz.underlying114
  a46 := Tryz.isAgg114
  z46 := Tryz.sizeOf114
  v46 := Tryz.zeroValue114
  t51 := Tryz.underlying119
  a51 := Tryz.isAgg119
  z51 := Tryz.sizeOf119
  v51 := Tryz.zeroValue119
  t53 := Tryz.underlying127
  a53 := Tryz.isAgg127
  z53 := Tryz.sizeOf127
  v53 := Tryz.zeroValue127
  t70 := Tryz.underlying98
  a70 := Tryz.isAgg98
  z70 := Tryz.sizeOf98
  v70 := Tryz.zeroValue98
  t72 := Tryz.underlying100
  a72 := Tryz.isAgg100
  z72 := Tryz.sizeOf100
  v72 := Tryz.zeroValue100
  t75 := Tryz.underlying102
  a75 := Tryz.isAgg102
  z75 := Tryz.sizeOf102
  v75 := Tryz.zeroValue102
  t76 := Tryz.underlying103
  a76 := Tryz.isAgg103
  z76 := Tryz.sizeOf103
  v76 := Tryz.zeroValue103
  t109 := Tryz.underlying145
  a109 := Tryz.isAgg145
  z109 := Tryz.sizeOf145
  v109 := Tryz.zeroValue145
  t127 := Tryz.underlying118
  a127 := Tryz.isAgg118
  z127 := Tryz.sizeOf118
  v127 := Tryz.zeroValue118
  t146 := Tryz.underlying166
  a146 := Tryz.isAgg166
  z146 := Tryz.sizeOf166
  v146 := Tryz.zeroValue166
  t148 := Tryz.underlying168
  a148 := Tryz.isAgg168
  z148 := Tryz.sizeOf168
  v148 := Tryz.zeroValue168
  t164 := Tryz.underlying123
  a164 := Tryz.isAgg123
  z164 := Tryz.sizeOf123
  v164 := Tryz.zeroValue123 }
theorem Tryz.Builder_Extra_105 : Builder.Extra Tryz.prog Tryz.lays105_ren := {
  sizeBuilder := by kernel_rfl
  liesBuilder := by kernel_rfl
  t5 := Tryz.underlying5
  a5 := Tryz.isAgg5
  z5 := Tryz.sizeOf5
  v5 := Tryz.zeroValue5
  infoByte := by kernel_rfl
  cellsByte := by kernel_rfl
  sizeByte := by kernel_rfl
  neB5 := by decide }
open Go.RowKit Go.Lib in
theorem Tryz.strings_Repeat (s : ByteArray) (c : Nat) (w : World) (hc : c ≤ 9223372036854775807) (hlen : s.size * c ≤ 140737488355328) :
    Calls Tryz.prog 84 #[.string s, .int .i64 c] w fun e w' => e = .returned (.string ⟨(Lib.repeatL s.data.toList c).toArray⟩) ∧ Below w.heap.size w w' := Any.strings_Repeat Tryz.lays105 Tryz.Builder_Extra_105 s c w hc hlen
end
end Go.Proofs
end
section
namespace Go.Proofs.YtndojpcjhkncgaaGreatDoor.Q
open Go Go.RowKit Go.Shelf Go.Proofs.YtndojpcjhkncgaaGreatDoorW.PrintWords
section
attribute [local go_sem] Oper.semAt_some
def flatL (ps : List (List UInt8)) : List UInt8 := ps.flatMap (· ++ [10])
def Bt (l : List UInt8) : ByteArray := ⟨l.toArray⟩
theorem Bt_size (l : List UInt8) : (Bt l).size = l.length := by show l.toArray.size = _; simp
def leftOf (bs : Nat) (w : World) : Nat := match w.cell? ⟨bs, 0, none⟩ with | some (.string s) => s.size | _ => 0
theorem index_piece (x r : List UInt8) (h : (10 : UInt8) ∉ x) : Lib.indexByte (x ++ 10 :: r) 10 = (x.length : Int) := by
  have hge := Lib.indexByte_ge (x ++ 10 :: r) 10
  have hat : (x ++ 10 :: r)[x.length]? = some 10 := by simp
  by_cases hm : Lib.indexByte (x ++ 10 :: r) 10 = -1
  · exact absurd hat (Lib.indexByte_none hm x.length)
  · obtain ⟨o, ho⟩ : ∃ o : Nat, Lib.indexByte (x ++ 10 :: r) 10 = (o : Int) := ⟨(Lib.indexByte (x ++ 10 :: r) 10).toNat, by omega⟩
    obtain ⟨h1, h2⟩ := Lib.indexByte_some ho
    rw [ho]
    rcases Nat.lt_trichotomy o x.length with hl | hl | hl
    · rw [List.getElem?_append_left hl] at h1
      exact absurd (List.mem_of_getElem? h1) h
    · omega
    · exact absurd hat (h2 _ hl)
set_option maxHeartbeats 1000000 in
theorem lines1_in (n l bs : Nat) (ps : List (List UInt8)) (hno : ∀ p ∈ ps, (10 : UInt8) ∉ p) (hsz : (flatL ps).length ≤ 4611686018427387904)
    (J Jx : List (List UInt8) → World → Prop) (hJs : ∀ pre W v, J pre W → J pre (W.setCell ⟨bs, 0, none⟩ v)) (hJd : ∀ pre W, J pre W → J pre W.drew)
    (hY : ∀ pre x rest s W, ps = pre ++ x :: rest → J pre W → W.heap[bs]? = some (.cells #[.string s] 9 (0, 0)) → YieldAt Fence.wide (n - 1) Tryz.prog l #[.string (Bt (x ++ [10]))] W fun e W' =>
      (e = .returned (.bool true) ∧ J (pre ++ [x]) W' ∧ W'.heap[bs]? = W.heap[bs]?) ∨ (e = .returned (.bool false) ∧ Jx (pre ++ [x]) W' ∧ W'.heap[bs]? = W.heap[bs]?))
    (W : World) (hb : W.heap[bs]? = some (.cells #[.string (Bt (flatL ps))] 9 (0, 0))) (h0 : J [] W) :
    CallsIn Fence.wide n Tryz.prog 92 #[.func (.yield l) #[] #[], .pointer (some ⟨bs, 0, none⟩)] W fun e W' => (∃ v, e = .returned v) ∧ (J ps W' ∨ ∃ pre, Jx pre W') := by
  refine callsIn_of_wp Tryz.func92 rfl trivial ?_ rfl
  simp only [Tryz.ntmps92, List.size_toArray, List.length_cons, List.length_nil, Nat.reduceAdd, Nat.reduceSub, Array.replicate_succ, Array.replicate_zero, List.push_toArray, List.append_toArray, List.nil_append, List.cons_append]
  gi_wp2
  gi_loopw [3, 4] (fun p q wr => ∃ pre rest, ps = pre ++ rest ∧ wr.heap[bs]? = some (.cells #[.string (Bt (flatL rest))] 9 (0, 0)) ∧ J pre wr) (fun _ _ wr => leftOf bs wr)
  case atStart => exact ⟨[], ps, rfl, hb, h0⟩
  case round =>
    obtain ⟨pre, rest, hp, hc, hj⟩ := hrel
    obtain ⟨S, hS⟩ : ∃ S, S = Bt (flatL rest) := ⟨_, rfl⟩
    rw [← hS] at hc
    have hcc : wr.cell? ⟨bs, 0, none⟩ = some (.string S) := bkc hc 0
    have hcf : wr.frozen? ⟨bs, 0, none⟩ = false := bkf hc 0
    have HS := Lib.hid hS
    have HC := Lib.hid hc
    clear hS hc hb h0
    cases rest with
    | nil =>
      have h0s : S.size = 0 := by rw [HS.out, Bt_size]; rfl
      gi_wp2
      go_end0
      exact ⟨⟨_, rfl⟩, .inl (by rw [hp, List.append_nil]; exact hj)⟩
    | cons x rest =>
      have hxs : S.size = x.length + 1 + (flatL rest).length := by rw [HS.out, Bt_size]; unfold flatL; rw [List.flatMap_cons, List.length_append, List.length_append]; rfl
      have hpos : decide (0 < (S.size : Int)) = true := decide_eq_true (by omega)
      have hpos2 : decide (0 < S.size) = true := decide_eq_true (by omega)
      gi_wp2
      have hidx : Lib.indexByte S.data.toList ((10 : Int).toNat.toUInt8) = (x.length : Int) := by
        have : S.data.toList = x ++ 10 :: flatL rest := by rw [HS.out]; unfold Bt flatL; simp
        rw [this]
        exact index_piece x _ (hno x (by rw [hp]; simp))
      refine ⟨trivial, (fun h => by cases h), (callsIn_wide.2 (Tryz.strings_IndexByte S 10 wr)).mono ?_⟩
      rintro e w' ⟨he, rfl⟩
      rw [hidx] at he
      subst he
      have hge : decide (0 ≤ (x.length : Int)) = true := decide_eq_true (by omega)
      have hSb : S.size ≤ 4611686018427387904 := by
        have h1 : (flatL (pre ++ x :: rest)).length = (flatL pre).length + (x.length + 1 + (flatL rest).length) := by unfold flatL; rw [List.flatMap_append, List.length_append, List.flatMap_cons, List.length_append, List.length_append]; rfl
        rw [hp, h1] at hsz
        omega
      have hw1 : wrap64 ((x.length : Int) + 1) = (x.length : Int) + 1 := IntWalk.wrap64_in _ ⟨by omega, by omega⟩
      have g1 : (0 : Int) ≤ (x.length : Int) + 1 := by omega
      have g2 : (x.length : Int) + 1 ≤ (S.size : Int) := by omega
      have g3 : x.length + 1 ≤ S.size := by omega
      clear hidx
      gi_wp2
      gi_region
      have hd : S.data.toList = x ++ 10 :: flatL rest := by rw [HS.out]; unfold Bt flatL; simp
      have hx1 : S.extract 0 (x.length + 1) = Bt (x ++ [10]) := by
        rw [show S = Bt (x ++ 10 :: flatL rest) by rw [← hd]; cases S; rfl]
        unfold Bt
        apply ByteArray.ext
        simp [ByteArray.data_extract, List.extract]
        rw [show x ++ 10 :: flatL rest = (x ++ [10]) ++ flatL rest by simp, List.take_left' (by simp)]
      have hx2 : S.extract (x.length + 1) (x.length + 1 + (flatL rest).length) = Bt (flatL rest) := by
        rw [show S = Bt (x ++ 10 :: flatL rest) by rw [← hd]; cases S; rfl]
        unfold Bt
        apply ByteArray.ext
        simp [ByteArray.data_extract, List.extract]
      rw [hx1, hx2]
      have hc2 : ((w'.setCell ⟨bs, 0, none⟩ (.string (Bt (flatL rest)))).drew).heap[bs]? = some (.cells #[.string (Bt (flatL rest))] 9 (0, 0)) := blk_drew (blk_put (cs := #[.string S]) HC.out 0 _ rfl)
      have hj2 := hJd _ _ (hJs pre w' (.string (Bt (flatL rest))) hj)
      have HRes := Lib.hid (show leftOf bs w' = x.length + 1 + (flatL rest).length by unfold leftOf; rw [hcc]; exact hxs)
      clear hcc hcf hx1 hx2 hd
      generalize (w'.setCell ⟨bs, 0, none⟩ (.string (Bt (flatL rest)))).drew = w2 at hc2 hj2 ⊢
      obtain ⟨fn, tmps, assign, body, hy, hR⟩ := hY pre x rest _ w2 hp hj2 hc2
      have HC2 := Lib.hid hc2
      clear hc2
      gi_wp2
      refine ⟨(fun h => by cases h), hR.mono ?_⟩
      rintro e W3 (⟨rfl, hj3, hk3⟩ | ⟨rfl, hx3, _⟩)
      · have hc3 := hk3.trans HC2.out
        have HC3 := Lib.hid hc3
        clear hc3 hk3
        gi_wp2
        go_roundw
        case rel => exact ⟨pre ++ [x], rest, by rw [hp]; simp, HC3.out, hj3⟩
        case measure =>
          have h1 : leftOf bs W3 = (flatL rest).length := by unfold leftOf; rw [show W3.cell? ⟨bs, 0, none⟩ = some (.string (Bt (flatL rest))) from bkc HC3.out 0]; exact Bt_size _
          rw [h1, HRes.out]
          omega
      · gi_wp2
        refine bodyPost_ret (results_none rfl _ _ _) rfl ?_
        exact ⟨⟨_, rfl⟩, .inr ⟨_, hx3⟩⟩
end
end Go.Proofs.YtndojpcjhkncgaaGreatDoor.Q
end
section
namespace Go.Proofs.YtndojpcjhkncgaaGreatDoor.Q
open Go
section
def wordsL (c : UInt8) : List UInt8 → List (List UInt8)
  | [] => [[]]
  | b :: l => if b = c then [] :: wordsL c l else match wordsL c l with | w :: ws => (b :: w) :: ws | [] => [[b]]
theorem words_one (c : UInt8) : ∀ (l : List UInt8), c ∉ l → wordsL c l = [l]
  | [], _ => rfl
  | b :: l, h => by
    have hb : b ≠ c := fun e => h (by simp [e])
    rw [wordsL, if_neg hb, words_one c l (fun e => h (by simp [e]))]
theorem words_cat (c : UInt8) (r : List UInt8) : ∀ (p : List UInt8), c ∉ p → wordsL c (p ++ c :: r) = p :: wordsL c r
  | [], _ => by rw [List.nil_append, wordsL, if_pos rfl]
  | b :: p, h => by
    have hb : b ≠ c := fun e => h (by simp [e])
    rw [List.cons_append, wordsL, if_neg hb, words_cat c r p (fun e => h (by simp [e]))]
theorem index_at (c : UInt8) (x r : List UInt8) (h : c ∉ x) : Lib.indexByte (x ++ c :: r) c = (x.length : Int) := by
  have hge := Lib.indexByte_ge (x ++ c :: r) c
  have hat : (x ++ c :: r)[x.length]? = some c := by simp
  by_cases hm : Lib.indexByte (x ++ c :: r) c = -1
  · exact absurd hat (Lib.indexByte_none hm x.length)
  · obtain ⟨o, ho⟩ : ∃ o : Nat, Lib.indexByte (x ++ c :: r) c = (o : Int) := ⟨(Lib.indexByte (x ++ c :: r) c).toNat, by omega⟩
    obtain ⟨h1, h2⟩ := Lib.indexByte_some ho
    rw [ho]
    rcases Nat.lt_trichotomy o x.length with hl | hl | hl
    · rw [List.getElem?_append_left hl] at h1
      exact absurd (List.mem_of_getElem? h1) h
    · omega
    · exact absurd hat (h2 _ hl)
theorem index_no (c : UInt8) (l : List UInt8) (h : c ∉ l) : Lib.indexByte l c = -1 := by
  have hge := Lib.indexByte_ge l c
  by_cases hm : Lib.indexByte l c = -1
  · exact hm
  · obtain ⟨o, ho⟩ : ∃ o : Nat, Lib.indexByte l c = (o : Int) := ⟨(Lib.indexByte l c).toNat, by omega⟩
    exact absurd (List.mem_of_getElem? (Lib.indexByte_some ho).1) h
theorem Bt_data (l : List UInt8) : (Bt l).data.toList = l := by unfold Bt; simp
theorem indexB_Bt (l : List UInt8) (c : UInt8) : Lib.indexB (Bt l) ⟨#[c]⟩ = Lib.indexByte l c := by
  unfold Lib.indexB
  rw [Bt_data]
  exact Lib.index_one l c
theorem Bt_cut (p : List UInt8) (c : UInt8) (r : List UInt8) : (Bt (p ++ c :: r)).extract 0 p.length = Bt p ∧ (Bt (p ++ c :: r)).extract (p.length + 1) (Bt (p ++ c :: r)).size = Bt r := by
  constructor
  · apply ByteArray.ext
    simp [Bt, ByteArray.data_extract, List.extract]
  · rw [Bt_size]
    apply ByteArray.ext
    simp [Bt, ByteArray.data_extract, List.extract]
    exact List.take_of_length_le (by omega)
theorem split_words (c : UInt8) : ∀ (n : Nat) (l : List UInt8), l.length ≤ n → Lib.splitB ⟨#[c]⟩ 0 (Lib.countB (Bt l) ⟨#[c]⟩) (Bt l) = (wordsL c l).map Bt ∧ (wordsL c l).length = Lib.countB (Bt l) ⟨#[c]⟩ + 1
  | n, l, hn => by
    by_cases hc : c ∈ l
    · obtain ⟨p, r, hl, hp⟩ := List.eq_append_cons_of_mem hc
      subst hl
      have hi : Lib.indexB (Bt (p ++ c :: r)) ⟨#[c]⟩ = (p.length : Int) := by rw [indexB_Bt]; exact index_at c p r hp
      have hcnt := Lib.countB_hit (Bt (p ++ c :: r)) ⟨#[c]⟩ p.length (Nat.le_refl _) hi
      have h1 : (⟨#[c]⟩ : ByteArray).size = 1 := rfl
      rw [h1, (Bt_cut p c r).2] at hcnt
      cases n with
      | zero => simp at hn
      | succ n =>
        obtain ⟨h2, h3⟩ := split_words c n r (by simp at hn; omega)
        rw [hcnt, Nat.add_comm 1, Lib.splitB_hit _ _ _ _ _ hi, h1, (Bt_cut p c r).2, Nat.add_zero, (Bt_cut p c r).1, h2, words_cat c r p hp]
        exact ⟨rfl, by rw [List.length_cons, h3]⟩
    · have hi : Lib.indexB (Bt l) ⟨#[c]⟩ = -1 := by rw [indexB_Bt]; exact index_no c l hc
      rw [Lib.countB_miss _ _ hi, Lib.splitB_miss _ _ _ _ hi, words_one c l hc]
      exact ⟨rfl, rfl⟩
theorem wordsL_len (c : UInt8) : ∀ (l : List UInt8) (w : List UInt8), w ∈ wordsL c l → w.length ≤ l.length
  | [], w, h => by
    rw [wordsL, List.mem_singleton] at h
    subst h
    exact Nat.le_refl _
  | b :: l, w, h => by
    rw [wordsL] at h
    by_cases hb : b = c
    · rw [if_pos hb] at h
      rcases List.mem_cons.mp h with rfl | h
      · exact Nat.zero_le _
      · exact Nat.le_succ_of_le (wordsL_len c l w h)
    · rw [if_neg hb] at h
      cases hx : wordsL c l with
      | nil =>
        rw [hx] at h
        rw [List.mem_singleton.mp h]
        simp
      | cons x xs =>
        rw [hx] at h
        rcases List.mem_cons.mp h with rfl | h
        · have := wordsL_len c l x (by rw [hx]; exact List.mem_cons_self)
          rw [List.length_cons, List.length_cons]
          omega
        · exact Nat.le_succ_of_le (wordsL_len c l w (by rw [hx]; exact List.mem_cons_of_mem _ h))
end
end Go.Proofs.YtndojpcjhkncgaaGreatDoor.Q
end
section
namespace Go.Proofs.YtndojpcjhkncgaaGreatDoor.Q
open Go.RowKit Go.Proofs.YtndojpcjhkncgaaGreatDoorW.PrintWords Go.Proofs.YtndojpcjhkncgaaGreatDoorW.PrintLast Go.Proofs.YtndojpcjhkncgaaGreatDoorW.PrintMore
section
attribute [local go_sem] max2_int min2_int max_two min_two max_three min_three max_four min_four   -- for this text's walks alone
def errW : Option Int → Value
  | none => .nilIface
  | some c => .iface 155 (.int .i64 c)
theorem errW_none : errW none = .nilIface := rfl
theorem errW_some (c : Int) : errW (some c) = .iface 155 (.int .i64 c) := rfl
theorem info3 : (Tryz.prog.info? 3).map (fun i => (i.zero, i.size, i.bytes)) = some (some (.int .i64 0), 1, 8) := by kernel_rfl
theorem info5 : (Tryz.prog.info? 5).map (fun i => (i.zero, i.size, i.bytes)) = some (some (.int .u8 0), 1, 1) := by kernel_rfl
theorem info9 : (Tryz.prog.info? 9).map (fun i => (i.zero, i.size, i.bytes)) = some (some (.string ⟨#[]⟩), 1, 16) := by kernel_rfl
theorem info44 : (Tryz.prog.info? 44).map (fun i => (i.zero, i.size, i.bytes)) = some (some (.slice none 0 0), 1, 24) := by kernel_rfl
theorem info47 : (Tryz.prog.info? 47).map (fun i => (i.zero, i.size, i.bytes)) = some (some (.agg #[(.int .i64 0), (.int .i64 0), (.int .i64 0), (.int .i64 0), (.int .i64 0)]), 5, 40) := by kernel_rfl
theorem info49 : (Tryz.prog.info? 49).map (fun i => (i.zero, i.size, i.bytes)) = some (some (.agg #[(.int .i64 0), (.int .i64 0)]), 2, 16) := by kernel_rfl
theorem info78 : (Tryz.prog.info? 78).map (fun i => (i.zero, i.size, i.bytes)) = some (some (.agg #[(.int .i64 0), (.int .i64 0)]), 2, 16) := by kernel_rfl
structure S47 where
  f0 : Int
  f1 : Int
  f2 : Int
  f3 : Int
  f4 : Int
def z47 : S47 := ⟨(0 : Int), (0 : Int), (0 : Int), (0 : Int), (0 : Int)⟩
def k47 : Kd S47 := Kd.iso (Kd.pair (Kd.int .i64) (Kd.pair (Kd.int .i64) (Kd.pair (Kd.int .i64) (Kd.pair (Kd.int .i64) (Kd.int .i64))))) (fun x : S47 => (x.f0, x.f1, x.f2, x.f3, x.f4))
theorem k47_heap : Kd.Heap k47 := Kd.heap_iso _ (Kd.heap_pair (Kd.heap_int .i64) (Kd.heap_pair (Kd.heap_int .i64) (Kd.heap_pair (Kd.heap_int .i64) (Kd.heap_pair (Kd.heap_int .i64) (Kd.heap_int .i64)))))
theorem k47_open {w : World} {x : S47} {cs : List Value} (h : k47.K w x cs) : cs = [.int .i64 x.f0, .int .i64 x.f1, .int .i64 x.f2, .int .i64 x.f3, .int .i64 x.f4] := by
  obtain ⟨_, _, rfl, rfl, ⟨_, _, rfl, rfl, ⟨_, _, rfl, rfl, ⟨_, _, rfl, rfl, rfl⟩⟩⟩⟩ := h
  exact rfl
theorem k47_openM {w : World} {base : Nat} {ok : Nat → Prop} {x : S47} {cs : List Value} (h : k47.M w base ok x cs) : cs = [.int .i64 x.f0, .int .i64 x.f1, .int .i64 x.f2, .int .i64 x.f3, .int .i64 x.f4] := by
  obtain ⟨_, _, rfl, rfl, ⟨_, _, rfl, rfl, ⟨_, _, rfl, rfl, ⟨_, _, rfl, rfl, rfl⟩⟩⟩⟩ := h
  exact rfl
theorem k47_mk (w : World) (x : S47)  : k47.K w x [.int .i64 x.f0, .int .i64 x.f1, .int .i64 x.f2, .int .i64 x.f3, .int .i64 x.f4] := ⟨[.int .i64 x.f0], [.int .i64 x.f1, .int .i64 x.f2, .int .i64 x.f3, .int .i64 x.f4], rfl, rfl, ⟨[.int .i64 x.f1], [.int .i64 x.f2, .int .i64 x.f3, .int .i64 x.f4], rfl, rfl, ⟨[.int .i64 x.f2], [.int .i64 x.f3, .int .i64 x.f4], rfl, rfl, ⟨[.int .i64 x.f3], [.int .i64 x.f4], rfl, rfl, rfl⟩⟩⟩⟩
theorem k47_mkM (w : World) (base : Nat) (ok : Nat → Prop) (x : S47)  : k47.M w base ok x [.int .i64 x.f0, .int .i64 x.f1, .int .i64 x.f2, .int .i64 x.f3, .int .i64 x.f4] := ⟨[.int .i64 x.f0], [.int .i64 x.f1, .int .i64 x.f2, .int .i64 x.f3, .int .i64 x.f4], rfl, rfl, ⟨[.int .i64 x.f1], [.int .i64 x.f2, .int .i64 x.f3, .int .i64 x.f4], rfl, rfl, ⟨[.int .i64 x.f2], [.int .i64 x.f3, .int .i64 x.f4], rfl, rfl, ⟨[.int .i64 x.f3], [.int .i64 x.f4], rfl, rfl, rfl⟩⟩⟩⟩
def rTO (xs : List S47) (i : Int) : S47 := xs.getD i.toNat z47
theorem at_T47 {w : World} {A : Option Addr} {n : Nat} {xs : List S47} (h : Kd.C k47 w A n xs) (i : Int) (h0 : 0 ≤ i) (h1 : i < n) : ∃ ad , A = some ad ∧ w.cell? (ad.add (i.toNat * 5)) = some (.int .i64 (rTO xs i).f0) ∧ w.cell? ⟨(ad.add (i.toNat * 5)).block, (ad.add (i.toNat * 5)).off + 1, none⟩ = some (.int .i64 (rTO xs i).f1) ∧ w.cell? ⟨(ad.add (i.toNat * 5)).block, (ad.add (i.toNat * 5)).off + 2, none⟩ = some (.int .i64 (rTO xs i).f2) ∧ w.cell? ⟨(ad.add (i.toNat * 5)).block, (ad.add (i.toNat * 5)).off + 3, none⟩ = some (.int .i64 (rTO xs i).f3) ∧ w.cell? ⟨(ad.add (i.toNat * 5)).block, (ad.add (i.toNat * 5)).off + 4, none⟩ = some (.int .i64 (rTO xs i).f4) := by
  obtain ⟨ad, c, e, _, hK, hc0⟩ := Kd.C_get h z47 i h0 h1
  have hc : ∀ j u, c[j]? = some u → w.cell? (ad.add (i.toNat * 5 + j)) = some u := hc0
  obtain rfl := k47_open hK
  exact ⟨ad, e, hc 0 _ rfl, by rw [← add_field _ _ 1 (by omega)]; exact hc 1 _ rfl, by rw [← add_field _ _ 2 (by omega)]; exact hc 2 _ rfl, by rw [← add_field _ _ 3 (by omega)]; exact hc 3 _ rfl, by rw [← add_field _ _ 4 (by omega)]; exact hc 4 _ rfl⟩
structure S49 where
  f0 : Int
  f1 : Int
def z49 : S49 := ⟨(0 : Int), (0 : Int)⟩
def k49 : Kd S49 := Kd.iso (Kd.pair (Kd.int .i64) (Kd.int .i64)) (fun x : S49 => (x.f0, x.f1))
theorem k49_open {w : World} {x : S49} {cs : List Value} (h : k49.K w x cs) : cs = [.int .i64 x.f0, .int .i64 x.f1] := by
  obtain ⟨_, _, rfl, rfl, rfl⟩ := h
  exact rfl
theorem k49_openM {w : World} {base : Nat} {ok : Nat → Prop} {x : S49} {cs : List Value} (h : k49.M w base ok x cs) : cs = [.int .i64 x.f0, .int .i64 x.f1] := by
  obtain ⟨_, _, rfl, rfl, rfl⟩ := h
  exact rfl
theorem k49_mk (w : World) (x : S49)  : k49.K w x [.int .i64 x.f0, .int .i64 x.f1] := ⟨[.int .i64 x.f0], [.int .i64 x.f1], rfl, rfl, rfl⟩
theorem k49_mkM (w : World) (base : Nat) (ok : Nat → Prop) (x : S49)  : k49.M w base ok x [.int .i64 x.f0, .int .i64 x.f1] := ⟨[.int .i64 x.f0], [.int .i64 x.f1], rfl, rfl, rfl⟩
def rTR (xs : List S49) (i : Int) : S49 := xs.getD i.toNat z49
theorem at_T49 {w : World} {A : Option Addr} {n : Nat} {xs : List S49} (h : Kd.C k49 w A n xs) (i : Int) (h0 : 0 ≤ i) (h1 : i < n) : ∃ ad , A = some ad ∧ w.cell? (ad.add (i.toNat * 2)) = some (.int .i64 (rTR xs i).f0) ∧ w.cell? ⟨(ad.add (i.toNat * 2)).block, (ad.add (i.toNat * 2)).off + 1, none⟩ = some (.int .i64 (rTR xs i).f1) := by
  obtain ⟨ad, c, e, _, hK, hc0⟩ := Kd.C_get h z49 i h0 h1
  have hc : ∀ j u, c[j]? = some u → w.cell? (ad.add (i.toNat * 2 + j)) = some u := hc0
  obtain rfl := k49_open hK
  exact ⟨ad, e, hc 0 _ rfl, by rw [← add_field _ _ 1 (by omega)]; exact hc 1 _ rfl⟩
structure S78 where
  f0 : Int
  f1 : Int
def z78 : S78 := ⟨(0 : Int), (0 : Int)⟩
def k78 : Kd S78 := Kd.iso (Kd.pair (Kd.int .i64) (Kd.int .i64)) (fun x : S78 => (x.f0, x.f1))
theorem k78_open {w : World} {x : S78} {cs : List Value} (h : k78.K w x cs) : cs = [.int .i64 x.f0, .int .i64 x.f1] := by
  obtain ⟨_, _, rfl, rfl, rfl⟩ := h
  exact rfl
theorem k78_mkM (w : World) (base : Nat) (ok : Nat → Prop) (x : S78)  : k78.M w base ok x [.int .i64 x.f0, .int .i64 x.f1] := ⟨[.int .i64 x.f0], [.int .i64 x.f1], rfl, rfl, rfl⟩
def rTP (xs : List S78) (i : Int) : S78 := xs.getD i.toNat z78
theorem at_T78 {w : World} {A : Option Addr} {n : Nat} {xs : List S78} (h : Kd.C k78 w A n xs) (i : Int) (h0 : 0 ≤ i) (h1 : i < n) : ∃ ad , A = some ad ∧ w.cell? (ad.add (i.toNat * 2)) = some (.int .i64 (rTP xs i).f0) ∧ w.cell? ⟨(ad.add (i.toNat * 2)).block, (ad.add (i.toNat * 2)).off + 1, none⟩ = some (.int .i64 (rTP xs i).f1) := by
  obtain ⟨ad, c, e, _, hK, hc0⟩ := Kd.C_get h z78 i h0 h1
  have hc : ∀ j u, c[j]? = some u → w.cell? (ad.add (i.toNat * 2 + j)) = some u := hc0
  obtain rfl := k78_open hK
  exact ⟨ad, e, hc 0 _ rfl, by rw [← add_field _ _ 1 (by omega)]; exact hc 1 _ rfl⟩
def rd_L6 (xs : List (List Int)) (i : Int) : (List Int) := xs.getD i.toNat ([] : List Int)
theorem at_L6 {w : World} {A : Option Addr} {n : Nat} {xs : List (List Int)} (h : Kd.C (Kd.slice 3 (Kd.int .i64)) w A n xs) (i : Int) (h0 : 0 ≤ i) (h1 : i < n) : ∃ ad A0 c0, A = some ad ∧ w.cell? (ad.add i.toNat) = some (.slice A0 (rd_L6 xs i).length c0) ∧ (rd_L6 xs i).length ≤ c0 ∧ (Kd.int .i64).C w A0 (rd_L6 xs i).length (rd_L6 xs i) := by
  obtain ⟨ad, c, e, _, hK, hc0⟩ := Kd.C_get h ([] : List Int) i h0 h1
  have hc : ∀ j u, c[j]? = some u → w.cell? (ad.add (i.toNat * 1 + j)) = some u := hc0
  obtain ⟨A0, c0, rfl, l0, g0⟩ := hK
  exact ⟨ad, A0, c0, e, by have hq := hc 0 _ rfl; rwa [Nat.mul_one, Nat.add_zero] at hq, l0, g0⟩
end
end Go.Proofs.YtndojpcjhkncgaaGreatDoor.Q
end
section
namespace Go.Proofs.YtndojpcjhkncgaaGreatDoor.Q
open Go Go.RowKit
section
structure GG (w : World) : Prop where
  pow : Lib.TabIs Tryz.prog w "internal/strconv.uint64pow10" .u64 Lib.pow10Tab
  low : Lib.TabIs Tryz.prog w "math/bits.deBruijn64tab" .u8 (Lib.deBruijn64tab.map fun (n : Nat) => (n : Int))
  syn : ∃ ev, w.cell? ⟨2, 0, none⟩ = some ev ∧ (ev = .nilIface ∨ ∃ te pe, ev = .iface te pe)
  rng : ∃ ev, w.cell? ⟨3, 0, none⟩ = some ev ∧ (ev = .nilIface ∨ ∃ te pe, ev = .iface te pe)
  max : ∃ m, w.cell? ⟨1, 0, none⟩ = some (.int .i64 m)
theorem named_pow : Tryz.prog.globalNamed "internal/strconv.uint64pow10" = some 0 := by kernel_rfl
theorem named_low : Tryz.prog.globalNamed "math/bits.deBruijn64tab" = some 7 := by kernel_rfl
theorem gcell {w w1 : World} {a : Addr} {v : Value} (h : w.cell? a = some v) (hb : Below w.heap.size w w1) : w1.cell? a = some v := (hb.cell (World.block_lt_of_cell? w a h)).trans h
theorem GG.below {w w1 : World} (h : GG w) (hb : Below w.heap.size w w1) : GG w1 where
  pow := Joins.tab_stays named_pow h.pow hb (Nat.le_refl _)
  low := Joins.tab_stays named_low h.low hb (Nat.le_refl _)
  syn := let ⟨ev, h1, h2⟩ := h.syn; ⟨ev, gcell h1 hb, h2⟩
  rng := let ⟨ev, h1, h2⟩ := h.rng; ⟨ev, gcell h1 hb, h2⟩
  max := let ⟨m, h1⟩ := h.max; ⟨m, gcell h1 hb⟩
end
section
def dig (n : Nat) : UInt8 := ([48, 49, 50, 51, 52, 53, 54, 55, 56, 57, 97, 98, 99, 100, 101, 102] : List UInt8).getD n 0
def hexL (n : Nat) : List UInt8 := if n < 16 then [dig n] else hexL (n / 16) ++ [dig (n % 16)]
termination_by n
def hexA (l : List UInt8) : Array Value := (List.replicate (65 - l.length) (Value.int .u8 0) ++ l.map fun b => Value.int .u8 b.toNat).toArray
theorem digs_at (n : Nat) (hn : n < 16) : ∀ h, ((⟨#[48, 49, 50, 51, 52, 53, 54, 55, 56, 57, 97, 98, 99, 100, 101, 102, 103, 104, 105, 106, 107, 108, 109, 110, 111, 112, 113, 114, 115, 116, 117, 118, 119, 120, 121, 122]⟩ : ByteArray)[n]'h) = dig n := by
  intro h
  match n, hn with
  | 0, _ => rfl
  | 1, _ => rfl
  | 2, _ => rfl
  | 3, _ => rfl
  | 4, _ => rfl
  | 5, _ => rfl
  | 6, _ => rfl
  | 7, _ => rfl
  | 8, _ => rfl
  | 9, _ => rfl
  | 10, _ => rfl
  | 11, _ => rfl
  | 12, _ => rfl
  | 13, _ => rfl
  | 14, _ => rfl
  | 15, _ => rfl
  | n + 16, h => omega
theorem hexA_set (l : List UInt8) (j : Nat) (d : UInt8) (hj : j + l.length = 65) (h1 : 1 ≤ j) : (hexA l).setIfInBounds (j - 1) (Value.int .u8 (d.toNat : Int)) = hexA (d :: l) := by
  obtain ⟨m, rfl⟩ : ∃ m, j = m + 1 := ⟨j - 1, by omega⟩
  unfold hexA
  rw [List.setIfInBounds_toArray, show 65 - l.length = m + 1 by omega, show 65 - (d :: l).length = m by simp; omega, Nat.add_sub_cancel, List.replicate_succ', List.append_assoc, List.set_append_right _ _ (by simp)]
  simp
theorem hexA_size (l : List UInt8) (h : l.length ≤ 65) : (hexA l).size = 65 := by simp [hexA]; omega
theorem hexA_cell (l : List UInt8) (i : Nat) (h : l.length ≤ 65) (hi : i < l.length) : (hexA l)[65 - l.length + i]? = some (.int .u8 ((l.map fun b => (b.toNat : Int)).getD i 0)) := by
  simp [hexA, List.getElem?_append, hi]
theorem and_15 (v : Nat) (h : v < 4294967296) : Go.bits .and .u64 (v : Int) 15 = ((v % 16 : Nat) : Int) := by
  have := bits_and_u64_nat v 15 (by omega) (by omega)
  rw [show ((15 : Nat) : Int) = 15 from rfl] at this
  rw [this, Nat.and_two_pow_sub_one_eq_mod v 4]
theorem hexL_small (v : Nat) (h : v < 16) : hexL v = [dig v] := by rw [hexL, if_pos h]
theorem hexL_big (v : Nat) (h : 16 ≤ v) : hexL v = hexL (v / 16) ++ [dig (v % 16)] := by rw [hexL, if_neg (by omega)]
theorem hexL_step (u v : Nat) (l : List UInt8) (h : hexL u = hexL v ++ l) (h16 : 16 ≤ v) : hexL u = hexL (v / 16) ++ (dig (v % 16) :: l) := by rw [h, hexL_big v h16]; simp
theorem hexL_end (u v : Nat) (l : List UInt8) (h : hexL u = hexL v ++ l) (h16 : v < 16) : hexL u = dig v :: l := by rw [h, hexL_small v h16]; rfl
theorem hexL_length (k : Nat) : ∀ u, u < 16 ^ (k + 1) → 1 ≤ (hexL u).length ∧ (hexL u).length ≤ k + 1 := by
  induction k with
  | zero => intro u hu; rw [hexL_small u (by simpa using hu)]; simp
  | succ k ih =>
    intro u hu
    by_cases h : u < 16
    · rw [hexL_small u h]; simp
    · rw [hexL_big u (by omega)]
      have := ih (u / 16) (by rw [Nat.div_lt_iff_lt_mul (by omega), ← Nat.pow_succ]; exact hu)
      simp; omega
end
end Go.Proofs.YtndojpcjhkncgaaGreatDoor.Q
end
section
namespace Go.Proofs.YtndojpcjhkncgaaGreatDoor.Q
open Go Go.RowKit Go.Proofs.YtndojpcjhkncgaaGreatDoorW.PrintWords
section
theorem tz_16 (w : World) (hG : GG w) : Calls Tryz.prog 143 #[.int .u64 16] w fun e w' => e = .returned (.int .i64 4) ∧ w' = w := by
  have hc := hG.low.cell named_low 15 (by decide)
  clear hG
  replace hc : w.cell? ⟨7, 15, none⟩ = some (.int .u8 4) := hc
  have key : IntKind.u64.wrap (bits BinOp.and IntKind.u64 16 (IntKind.u64.wrap (-16)) * 285870213051353865) / 288230376151711744 = 15 := by kernel_rfl
  go_enter Tryz.func143, Tryz.ntmps143
  go_wp2
  go_ret
  exact ⟨rfl, rfl⟩
theorem tzs_16 (w : World) (hG : GG w) : Calls Tryz.prog 127 #[.int .u64 16] w fun e w' => e = .returned (.int .i64 4) ∧ w' = w := by
  have h := tz_16 w hG
  clear hG
  go_enter Tryz.func127, Tryz.ntmps127
  go_wp2_with (go_at_call 143; refine h.mono ?_; rintro e w' ⟨rfl, rfl⟩)
  go_ret
  exact ⟨rfl, rfl⟩
theorem pow_16 (w : World) : Calls Tryz.prog 126 #[.int .i64 16] w fun e w' => e = .returned (.bool true) ∧ w' = w := by
  have key : (bits BinOp.and IntKind.i64 16 15 == 0) = true := by kernel_rfl
  go_enter Tryz.func126, Tryz.ntmps126
  go_wp2
  go_ret
  exact ⟨rfl, rfl⟩
theorem hexA_nil : Tryz.zeroCells164 = hexA [] := by kernel_rfl
theorem alen_110 : Tryz.prog.arrayLen 164 = 65 := by kernel_rfl
theorem elem_110 : Tryz.prog.elem 164 = 5 := by kernel_rfl
theorem under_110 : Tryz.prog.underlying 164 = some (.array (Tryz.prog.arrayLen 164) (Tryz.prog.elem 164)) := by kernel_rfl
theorem slice_110 (W : World) (b j : Nat) (h1 : 1 ≤ j) (h2 : j ≤ 65) : (Instr.sliceAt 164 (.pointer (some ⟨b, 0, none⟩)) (some (.int .i64 ((j : Int) - 1))) none none).run Tryz.prog W = .ok (.slice (some ⟨b, j - 1, none⟩) (66 - j) (66 - j)) W := by
  have hs : (sizeOf 5).run Tryz.prog W = .ok 1 W := by kernel_rfl
  have h := run_sliceAt_array_l (P := Tryz.prog) W 164 ⟨b, 0, none⟩ under_110 .i64 ((j : Int) - 1) (by omega) (by rw [alen_110]; omega)
  rw [h, elem_110, hs, alen_110]
  have e1 : ((j : Int) - 1).toNat = j - 1 := by omega
  have e2 : ¬ 65 = j - 1 := by omega
  simp only [Result.andThen, slicedAt, e1, if_neg e2, Nat.mul_one]
  rw [show 65 - (j - 1) = 66 - j by omega]
  unfold Addr.add
  by_cases e : j - 1 = 0
  · simp [e]
  · simp [e]
theorem conv_hex (w : World) (l : List UInt8) (h : l.length ≤ 65) : (convert 53 9 (.slice (some ⟨w.heap.size, 65 - l.length, none⟩) l.length l.length)).run Tryz.prog (w.alloc (.cells (hexA l) 164)) = .ok (.string ⟨l.toArray⟩) (w.alloc (.cells (hexA l) 164)) := by
  have hc := run_convert_bytes_arg (P := Tryz.prog) (w.alloc (.cells (hexA l) 164)) 53 5 Tryz.underlying53 Tryz.underlying5 w.heap.size (65 - l.length) l.length l.length (l.map fun b => (b.toNat : Int)) (by simp) (fun i hi => by
    exact (bkc (heap_alloc_new w (.cells (hexA l) 164)) (65 - l.length + i)).trans (hexA_cell l i h hi)) 9 Tryz.underlying9
  rw [hc, Lib.Lz.strOfNums_map]
set_option maxRecDepth 100000 in
theorem bits_16 (u : Nat) (hu : u < 4294967296) (w : World) (hG : GG w) :
    Calls Tryz.prog 103 #[.slice none 0 0, .int .u64 u, .int .i64 16, .bool false, .bool false] w fun e w' => e = .returned (.tuple #[.slice none 0 0, .string ⟨(hexL u).toArray⟩]) ∧ Below w.heap.size w w' := by
  have hz : GG (w.alloc (.cells Tryz.zeroCells164 164)) := hG.below ((Below.refl _ _).alloc (Nat.le_refl _) _)
  clear hG
  have hlen := hexL_length 7 u (by omega)
  go_enter Tryz.func103, Tryz.ntmps103
  go_wp2_with (first | (go_at_call 126; refine (pow_16 _).mono ?_; rintro e w' ⟨rfl, rfl⟩) | (go_at_call 127; refine (tzs_16 _ hz).mono ?_; rintro e w' ⟨rfl, rfl⟩))
  go_loopw [1, 13] (fun x y wr => ∃ (v j : Nat) (l : List UInt8), x = .int .u64 v ∧ y = .int .i64 j ∧ j + l.length = 65 ∧ v < 4294967296 ∧ Hid (hexL u = hexL v ++ l) ∧ wr = w.alloc (.cells (hexA l) 164)) (fun x _ _ => (intOf x).toNat)
  case atStart => exact ⟨u, 65, [], rfl, rfl, rfl, hu, by exact (by simp : hexL u = hexL u ++ []), by rw [hexA_nil]⟩
  case round =>
    obtain ⟨v, j, l, rfl, rfl, hj, hv, hl, rfl⟩ := hrel
    have hll : l.length ≤ 7 := by
      have h1 := congrArg List.length hl.out
      have h2 := hexL_length 7 v (by omega)
      rw [List.length_append] at h1
      omega
    have hlt : j - 1 < (hexA l).size := by rw [hexA_size l (by omega)]; omega
    have hb := heap_alloc_new w (.cells (hexA l) 164)
    have hc : (w.alloc (.cells (hexA l) 164)).cell? ⟨w.heap.size, j - 1, none⟩ = some (hexA l)[j - 1] := (bkc hb (j - 1)).trans (Array.getElem?_eq_getElem hlt)
    obtain ⟨x, hx⟩ : ∃ x, (hexA l)[j - 1] = x := ⟨_, rfl⟩
    rw [hx] at hc
    clear hx hlt
    have hf := bkf hb (j - 1)
    clear hb
    have ha := and_15 v hv
    have hj1 : (j : Int) ≤ 65 := by omega
    have hj0 : (1 : Int) ≤ (j : Int) := by omega
    clear hlen
    by_cases h16 : 16 ≤ v
    · have hd := digs_at (v % 16) (by omega)
      have hset := hexA_set l j (dig (v % 16)) hj (by omega)
      have HJ := Lib.hid hj
      have HL := Lib.hid hll
      clear hj hll
      go_wp2
      have hj := HJ.out
      refine ⟨⟨v / 16, j - 1, dig (v % 16) :: l, by simp, ?_, by simp; omega, by omega, hexL_step u v l hl.out h16, rfl⟩, by simp [intOf]; omega⟩
      rw [show ((j - 1 : Nat) : Int) = (j : Int) - 1 by omega]
    · have hd := digs_at v (by omega)
      have hset := hexA_set l j (dig v) hj (by omega)
      have hsl := fun W => slice_110 W w.heap.size j (by omega) (by omega)
      have hcv := conv_hex w (dig v :: l) (by simp; omega)
      rw [show 65 - (dig v :: l).length = j - 1 by simp; omega, show (dig v :: l).length = 66 - j by simp; omega] at hcv
      have he := hexL_end u v l hl.out (by omega)
      have HE := Lib.hid he
      have HJ := Lib.hid hj
      have HL := Lib.hid hll
      clear hj hll he hl
      go_wp2
      go_ret2
      exact ⟨congrArg (fun z => Ending.returned (.tuple #[.slice none 0 0, .string ⟨List.toArray z⟩])) HE.out.symm, (Below.refl _ _).alloc (Nat.le_refl _) _⟩
theorem uint_16 (u : Nat) (hu : u < 4294967296) (w : World) (hG : GG w) :
    Calls Tryz.prog 104 #[.int .u64 u, .int .i64 16] w fun e w' => e = .returned (.string ⟨(hexL u).toArray⟩) ∧ Below w.heap.size w w' := by
  have H := Lib.hid (bits_16 u hu w hG)
  clear hG
  go_enter Tryz.func104, Tryz.ntmps104
  go_wp2_with (go_at_call 103; refine H.out.mono ?_; rintro e w' ⟨rfl, hb⟩)
  go_ret
  exact ⟨rfl, hb⟩
theorem FormatUint_16 (u : Nat) (hu : u < 4294967296) (w : World) (hG : GG w) :
    Calls Tryz.prog 83 #[.int .u64 u, .int .i64 16] w fun e w' => e = .returned (.string ⟨(hexL u).toArray⟩) ∧ Below w.heap.size w w' := by
  have H := Lib.hid (uint_16 u hu w hG)
  clear hG
  go_enter Tryz.func83, Tryz.ntmps83
  go_wp2_with (go_at_call 104; refine H.out.mono ?_; rintro e w' ⟨rfl, hb⟩)
  go_ret
  exact ⟨rfl, hb⟩
def hex8 (u : Nat) : List UInt8 := List.replicate (8 - (hexL u).length) 48 ++ hexL u
def bank_hex.f (a0 : Int) : Option ByteArray := if 0 ≤ a0 ∧ a0 < 4294967296 then some ⟨(hex8 a0.toNat).toArray⟩ else none
theorem rep_48 (n : Nat) : Lib.repeatL [48] n = List.replicate n (48 : UInt8) := by
  induction n with
  | zero => rfl
  | succ n ih => rw [Lib.repeatL, ih]; rfl
theorem hex8_eq (u : Nat) (s r : ByteArray) (hs : s = ⟨(hexL u).toArray⟩) (hr : r = ⟨(Lib.repeatL [48] (8 - s.size)).toArray⟩) : r ++ s = ⟨(hex8 u).toArray⟩ := by
  have hz : s.size = (hexL u).length := by rw [hs]; rfl
  rw [hr, hz, hs, rep_48]
  apply ByteArray.ext
  rw [ByteArray.data_append]
  simp [hex8]
theorem bank_hex.go (u : Nat) (hu : u < 4294967296) (w : World) (hG : GG w) :
    Calls Tryz.prog 74 #[.int .u32 u] w fun e w' => e = .returned (.string ⟨(hex8 u).toArray⟩) ∧ Below w.heap.size w w' := by
  obtain ⟨s, hs⟩ : ∃ s : ByteArray, s = ⟨(hexL u).toArray⟩ := ⟨_, rfl⟩
  obtain ⟨r, hr⟩ : ∃ r : ByteArray, r = ⟨(Lib.repeatL [48] (8 - s.size)).toArray⟩ := ⟨_, rfl⟩
  have hl := hexL_length 7 u (by omega)
  have hz : s.size = (hexL u).length := by rw [hs]; rfl
  have hsz : s.size ≤ 8 := by omega
  have hrz : r.size ≤ 8 := by
    rw [hr, rep_48]
    show (List.replicate (8 - s.size) (48 : UInt8)).toArray.size ≤ 8
    simp
  have h := FormatUint_16 u hu w hG
  rw [← hs] at h
  have h2 : ∀ W, Calls Tryz.prog 84 #[.string ⟨#[48]⟩, .int .i64 ((8 - s.size : Nat) : Int)] W fun e w' => e = .returned (.string r) ∧ Below W.heap.size W w' := by
    intro W
    rw [hr]
    exact Tryz.strings_Repeat ⟨#[48]⟩ (8 - s.size) W (by omega) (by show 1 * (8 - s.size) ≤ _; omega)
  have H := Lib.hid h
  have H2 := Lib.hid h2
  have HE := Lib.hid (hex8_eq u s r hs hr)
  clear h h2 hs hr hG hz hl
  go_enter Tryz.func74, Tryz.ntmps74
  go_wp2_with (go_at_call 83; refine H.out.mono ?_; rintro e w' ⟨rfl, hb⟩)
  rw [show (8 : Int) - (s.size : Int) = ((8 - s.size : Nat) : Int) by omega]
  refine (H2.out _).mono ?_
  rintro e w2 ⟨rfl, hb2⟩
  go_wp2_with fail
  go_ret
  exact ⟨by rw [← HE.out]; rfl, below_step hb hb2⟩
theorem bank_hex.calls (a0 : Int) (r : ByteArray) (w : World) (hG : GG w) (h : bank_hex.f a0 = some r) :
    Calls Tryz.prog 74 #[.int .u32 a0] w fun e w' => e = .returned (.string r) ∧ Below w.heap.size w w' := by
  unfold bank_hex.f at h
  split at h
  · rename_i h0
    obtain rfl := Option.some.inj h
    have := bank_hex.go a0.toNat (by omega) w hG
    rw [Int.toNat_of_nonneg h0.1] at this
    exact this
  · cases h
def strconv_Itoa.f (a0 : Int) : Option ByteArray := if -9223372036854775808 ≤ a0 ∧ a0 ≤ 9223372036854775807 then some ⟨(Lib.itoa a0).toArray⟩ else none
theorem strconv_Itoa.calls (a0 : Int) (r : ByteArray) (w : World) (hG : GG w) (h : strconv_Itoa.f a0 = some r) :
    Calls Tryz.prog 62 #[.int .i64 a0] w fun e w' => e = .returned (.string r) ∧ Below w.heap.size w w' := by
  unfold strconv_Itoa.f at h
  split at h
  · rename_i h0
    obtain rfl := Option.some.inj h
    refine (Tryz.strconv_Itoa a0 h0.1 h0.2 w hG.pow).mono ?_
    rintro e w' ⟨rfl, k, os, rfl⟩
    exact ⟨rfl, Lib.below_grow _ _ (Nat.le_refl _) _ _⟩
  · cases h
end
end Go.Proofs.YtndojpcjhkncgaaGreatDoor.Q
end
section
namespace Go.Proofs.YtndojpcjhkncgaaGreatDoor.Q
open Go Go.RowKit Go.Proofs.YtndojpcjhkncgaaGreatDoorW.PrintWords Go.Proofs.YtndojpcjhkncgaaGreatDoorW.PrintLast Go.Proofs.YtndojpcjhkncgaaGreatDoorW.PrintMore
section
def numIn (v : Int) : Bool := decide (-1099511627776 ≤ v) && decide (v ≤ 1099511627776)
def numF (l : List UInt8) : Int × Bool :=
  match Lib.atoiAll l with
  | .ok v => (v, numIn v && decide (Lib.itoa v = l))
  | .range => (Lib.atoiSat l, false)
  | _ => (0, false)
open Go.Shelf in
theorem atoi_bad (s : ByteArray) (hlim : s.size ≤ 281474976710656) (h1 : ∀ v, Lib.atoiAll s.data.toList ≠ .ok v) (h2 : Lib.atoiAll s.data.toList ≠ .range) (ev : Value) (w : World) (hv : w.cell? ⟨2, 0, none⟩ = some ev) (hev : ev = .nilIface ∨ ∃ te pe, ev = .iface te pe) :
    Calls Tryz.prog 80 #[.string s] w fun e w' => ∃ N, e = .returned (.tuple #[.int .i64 (0), .iface 158 (.pointer (some ⟨N, 0, none⟩))]) ∧ w.heap.size ≤ N ∧ w'.heap[N]? = some (.cells #[.string ⟨#[65, 116, 111, 105]⟩, .string s, ev] 174 (0, 0)) ∧ Below w.heap.size w w' :=
  Any.strconv_Atoi_syntax Tryz.laysC172 s hlim (by
    cases hh : Lib.atoiAll s.data.toList with
    | ok v => exact absurd hh (h1 v)
    | range => exact absurd hh h2
    | _ => rfl) ev w hv hev
set_option maxHeartbeats 1000000 in
theorem number_go (l : List UInt8) (hs : l.length ≤ 281474976710656) (w : World) (hG : GG w) :
    Calls Tryz.prog 68 #[.string ⟨l.toArray⟩] w fun e w' => e = .returned (.tuple #[.int .i64 (numF l).1, .bool (numF l).2]) ∧ Below w.heap.size w w' := by
  obtain ⟨s, hsl⟩ : ∃ s : ByteArray, s = ⟨l.toArray⟩ := ⟨_, rfl⟩
  have hd : s.data.toList = l := by rw [hsl]
  have hsz : s.size = l.length := by rw [hsl]; show l.toArray.size = _; simp
  rw [← hsl]
  have HSL := Lib.hid hsl
  have HD := Lib.hid hd
  have HG := Lib.hid hG
  clear hsl
  cases hat : Lib.atoiAll l with
  | ok v =>
    have HA := Lib.hid hat
    have hA := Tryz.strconv_Atoi_ok s (by omega) v (by rw [hd]; exact hat) w
    have HC := Lib.hid hA
    clear hA hat hd hG
    go_enter Tryz.func68, Tryz.ntmps68
    go_wp2_with fail
    refine HC.out.mono ?_
    rintro e w1 ⟨rfl, hw⟩
    have HB := Lib.hid (show Below w.heap.size w w1 by
      rcases hw with rfl | ⟨t, rfl⟩
      · exact Below.refl _ _
      · exact Lib.bytesWorld_below _ _ _)
    clear hw HC
    by_cases h1 : -1099511627776 ≤ v
    · have h1b : decide (-1099511627776 ≤ v) = true := decide_eq_true h1
      by_cases h2 : v ≤ 1099511627776
      · have h2b : decide (v ≤ 1099511627776) = true := decide_eq_true h2
        go_wp2_with fail
        refine (strconv_Itoa.calls v ⟨(Lib.itoa v).toArray⟩ w1 (HG.out.below HB.out) (by unfold strconv_Itoa.f; rw [if_pos (by omega)])).mono ?_
        rintro e w2 ⟨rfl, hb2⟩
        have HB2 := Lib.hid (below_then HB.out HB.out.size hb2)
        clear hb2
        go_wp2_with fail
        go_ret2
        have hb : (Lib.itoa v == s.toList) = decide (Lib.itoa v = l) := by rw [ByteArray.toList_eq, HD.out, Bool.eq_iff_iff, beq_iff_eq, decide_eq_true_iff]
        have hn : numF l = (v, decide (Lib.itoa v = l)) := by unfold numF numIn; rw [HA.out]; simp [h1b, h2b]
        exact ⟨by rw [hn, ← hb]; rfl, HB2.out⟩
      · have h2b : decide (v ≤ 1099511627776) = false := decide_eq_false h2
        go_wp2_with fail
        go_ret2
        exact ⟨by unfold numF; rw [HA.out]; simp [numIn]; intro h3 h4; omega, HB.out⟩
    · have h1b : decide (-1099511627776 ≤ v) = false := decide_eq_false h1
      go_wp2_with fail
      go_ret2
      exact ⟨by unfold numF; rw [HA.out]; simp [numIn]; intro h3 h4; omega, HB.out⟩
  | range =>
    obtain ⟨ev, hv, hev⟩ := hG.rng
    have HC := Lib.hid (Tryz.strconv_Atoi_range s (by omega) (by rw [hd]; exact hat) ev w hv hev)
    have HA := Lib.hid hat
    clear hat hG hv hev
    obtain ⟨v, hv⟩ : ∃ v, v = Lib.atoiSat s.data.toList := ⟨_, rfl⟩
    rw [← hv] at HC
    have HV := Lib.hid (show v = Lib.atoiSat l by rw [hv, hd])
    clear hv hd
    go_enter Tryz.func68, Tryz.ntmps68
    go_wp2_with fail
    refine HC.out.mono ?_
    rintro e w1 ⟨N, rfl, _, _, hb⟩
    have HB := Lib.hid hb
    clear hb HC
    go_wp2_with fail
    go_ret2
    exact ⟨by unfold numF; rw [HA.out, ← HV.out]; rfl, HB.out⟩
  | _ =>
    obtain ⟨ev, hv, hev⟩ := hG.syn
    have HC := Lib.hid (atoi_bad s (by omega) (fun v e => by rw [hd, hat] at e; cases e) (fun e => by rw [hd, hat] at e; cases e) ev w hv hev)
    have HA := Lib.hid hat
    clear hat hd hG hv hev
    go_enter Tryz.func68, Tryz.ntmps68
    go_wp2_with fail
    refine HC.out.mono ?_
    rintro e w1 ⟨N, rfl, _, _, hb⟩
    have HB := Lib.hid hb
    clear hb HC
    go_wp2_with fail
    go_ret2
    exact ⟨by unfold numF; rw [HA.out]; rfl, HB.out⟩
end
end Go.Proofs.YtndojpcjhkncgaaGreatDoor.Q
end
section
namespace Go.Proofs.YtndojpcjhkncgaaGreatDoor.Q
open Go Go.RowKit Go.Proofs.YtndojpcjhkncgaaGreatDoorW.PrintWords
section
def numsOf : List (List UInt8) → Option (List Int)
  | [] => some []
  | w :: ws => if (numF w).2 = true then (numsOf ws).map ((numF w).1 :: ·) else none
def scanF (l word : List UInt8) (m : Nat) : Option (List Int) :=
  match wordsL 32 l with
  | w :: ws => if w = word ∧ ws.length = m then numsOf ws else none
  | [] => none
def setAll (w : World) (l : List ((Nat × Nat) × Int)) : World := l.foldl (fun w x => w.setCell ⟨x.1.1, x.1.2, none⟩ (.int .i64 x.2)) w
theorem setAll_snoc (w : World) (l : List ((Nat × Nat) × Int)) (p : Nat × Nat) (n : Int) : setAll w (l ++ [(p, n)]) = (setAll w l).setCell ⟨p.1, p.2, none⟩ (.int .i64 n) := by simp [setAll, List.foldl_append]
theorem setAll_size : ∀ (l : List ((Nat × Nat) × Int)) (w : World), (setAll w l).heap.size = w.heap.size
  | [], w => rfl
  | x :: l, w => by
    show (setAll (w.setCell ⟨x.1.1, x.1.2, none⟩ (.int .i64 x.2)) l).heap.size = _
    rw [setAll_size l]
    simp [World.setCell]
theorem setAll_other : ∀ (l : List ((Nat × Nat) × Int)) (w : World) (k : Nat), (∀ x ∈ l, x.1.1 ≠ k) → (setAll w l).heap[k]? = w.heap[k]?
  | [], w, k, _ => rfl
  | x :: l, w, k, h => by
    show (setAll (w.setCell ⟨x.1.1, x.1.2, none⟩ (.int .i64 x.2)) l).heap[k]? = _
    rw [setAll_other l _ k (fun y hy => h y (List.mem_cons_of_mem _ hy))]
    exact Below.heap_setCell _ _ _ _ (fun e => h x List.mem_cons_self e.symm)
theorem setAll_below (B : Nat) : ∀ (l : List ((Nat × Nat) × Int)) (w : World), (∀ x ∈ l, B ≤ x.1.1) → Below B w (setAll w l)
  | [], w, _ => Below.refl _ _
  | x :: l, w, h => ((Below.refl B w).setCell (p := ⟨x.1.1, x.1.2, none⟩) (h x List.mem_cons_self) _).trans (setAll_below B l _ (fun y hy => h y (List.mem_cons_of_mem _ hy)))
theorem setAll_shape : ∀ (l : List ((Nat × Nat) × Int)) (w : World) (k : Nat) (cs : Array Value) (t : TypeId), w.heap[k]? = some (.cells cs t (0, 0)) → ∃ cs', (setAll w l).heap[k]? = some (.cells cs' t (0, 0)) ∧ cs'.size = cs.size
  | [], w, k, cs, t, h => ⟨cs, h, rfl⟩
  | x :: l, w, k, cs, t, h => by
    show ∃ cs', (setAll (w.setCell ⟨x.1.1, x.1.2, none⟩ (.int .i64 x.2)) l).heap[k]? = _ ∧ _
    by_cases hk : x.1.1 = k
    · subst hk
      obtain ⟨cs', h1, h2⟩ := setAll_shape l _ x.1.1 (cs.setIfInBounds x.1.2 (.int .i64 x.2)) t (blk_put h x.1.2 (.int .i64 x.2) rfl)
      exact ⟨cs', h1, by rw [h2]; simp⟩
    · exact setAll_shape l _ k cs t ((Below.heap_setCell _ _ _ _ (fun e => hk e.symm)).trans h)
theorem numsOf_snoc : ∀ (ws : List (List UInt8)) (x : List UInt8), numsOf (ws ++ [x]) = match numsOf ws with | some ms => if (numF x).2 = true then some (ms ++ [(numF x).1]) else none | none => none
  | [], x => by
    show (if (numF x).2 = true then (numsOf []).map ((numF x).1 :: ·) else none) = _
    split <;> simp [numsOf]
  | w :: ws, x => by
    rw [List.cons_append, numsOf, numsOf, numsOf_snoc ws x]
    by_cases h : (numF w).2 = true
    · rw [if_pos h, if_pos h]
      cases numsOf ws with
      | none => rfl
      | some ms =>
        simp only [Option.map_some]
        split <;> simp
    · rw [if_neg h, if_neg h]
theorem numsOf_none : ∀ (a b : List (List UInt8)), numsOf a = none → numsOf (a ++ b) = none
  | [], b, h => by cases h
  | w :: ws, b, h => by
    rw [List.cons_append, numsOf]
    rw [numsOf] at h
    by_cases hw : (numF w).2 = true
    · rw [if_pos hw] at h ⊢
      rw [numsOf_none ws b (by simpa using h)]
      rfl
    · rw [if_neg hw]
theorem numsOf_len : ∀ (ws : List (List UInt8)) (ns : List Int), numsOf ws = some ns → ns.length = ws.length
  | [], ns, h => by cases h; rfl
  | w :: ws, ns, h => by
    unfold numsOf at h
    split at h
    · obtain ⟨ms, h1, rfl⟩ := Option.map_eq_some_iff.mp h
      rw [List.length_cons, List.length_cons, numsOf_len ws ms h1]
    · cases h
theorem zip_snoc {α β : Type} : ∀ (ms : List β) (ps : List α) (n : β) (h : ms.length < ps.length), ps.zip (ms ++ [n]) = ps.zip ms ++ [(ps[ms.length], n)]
  | [], p :: ps, n, _ => by simp
  | m :: ms, p :: ps, n, h => by
    have := zip_snoc ms ps n (by simpa using h)
    simp [this]
theorem below_set_both {B : Nat} {A C : World} (h : Below B A C) (p : Addr) (hp : p.block < B) (v : Value) : Below B (A.setCell p v) (C.setCell p v) :=
  ⟨h.os, h.tape, h.output, by have := h.size; simpa [World.setCell] using this, fun k hk => by simp only [World.setCell, Array.getElem?_modify]; rw [h.block k hk]⟩
theorem scan_bounds (q n N : Nat) (h : q < n) (hn : n ≤ 100) (hN : N = n + 1) : (0 : Int) ≤ (q : Int) ∧ (q : Int) < (n : Int) ∧ wrap64 ((q : Int) + 1) = (q : Int) + 1 ∧ (q : Int) + 1 < (N : Int) ∧ (0 : Int) ≤ (q : Int) + 1 := by
  refine ⟨by omega, by omega, IntWalk.wrap64_in _ ⟨by omega, by omega⟩, by omega, by omega⟩
set_option maxHeartbeats 2000000 in
theorem scan_go (l word : List UInt8) (hl : l.length ≤ 1048576) (ptrs : List (Nat × Nat)) (hpl : ptrs.length ≤ 100) (g : Nat) (w0 w : World) (hG0 : GG w0) (hlow : Below w0.heap.size w0 w)
    (hg : w.heap[g]? = some (.cells (ptrs.map fun p => Value.pointer (some ⟨p.1, p.2, none⟩)).toArray 90 (0, 0)))
    (hp : ∀ p ∈ ptrs, p.1 ≠ g ∧ w0.heap.size ≤ p.1 ∧ ∃ cs t, w.heap[p.1]? = some (.cells cs t (0, 0)) ∧ p.2 < cs.size) :
    Calls Tryz.prog 49 #[.string (Bt l), .string (Bt word), .slice (some ⟨g, 0, none⟩) ptrs.length ptrs.length] w fun e w' =>
      ∃ ms, e = .returned (.bool (scanF l word ptrs.length).isSome) ∧ ms.length ≤ ptrs.length ∧ (∀ ns, scanF l word ptrs.length = some ns → ms = ns) ∧ Below w.heap.size (setAll w (ptrs.zip ms)) w' := by
  have hG := hG0.below hlow
  obtain ⟨m, hm⟩ := hG.max
  have HG0 := Lib.hid hG0
  have HLow := Lib.hid hlow
  clear hG0 hlow
  have HSp := Lib.hid (Tryz.strings_Split (Bt l) ⟨#[32]⟩ m w (by rw [Bt_size]; omega) hm (Nat.le_refl _))
  obtain ⟨hw1, hw2⟩ := split_words 32 l.length l (Nat.le_refl _)
  have HG := Lib.hid hG
  have HW1 := Lib.hid hw1
  have HW2 := Lib.hid hw2
  have HP := Lib.hid hp
  have HGg := Lib.hid hg
  clear hG hm hw1 hw2 hp hg
  go_enter Tryz.func49, Tryz.ntmps49
  go_wp2_with fail
  refine HSp.out.mono ?_
  rintro e w1 ⟨rfl, hw⟩
  rw [HW1.out] at hw
  rw [← HW2.out]
  obtain ⟨wd, ws, hwl⟩ : ∃ wd ws, wordsL 32 l = wd :: ws := by
    cases hx : wordsL 32 l with
    | nil => have := HW2.out; rw [hx] at this; simp at this
    | cons a b => exact ⟨a, b, rfl⟩
  obtain ⟨N, hN⟩ : ∃ N, N = (wordsL 32 l).length := ⟨_, rfl⟩
  rw [← hN]
  have hN1 : N = ws.length + 1 := by rw [hN, hwl]; rfl
  have hblk : w1.heap[w.heap.size]? = some (.cells (((wordsL 32 l).map Bt).map Value.string).toArray 9 (0, 0)) := by rw [hw]; exact blk_new w _
  rw [hwl] at hblk
  have hc0 : w1.cell? ⟨w.heap.size, 0, none⟩ = some (.string (Bt wd)) := bkc hblk 0
  have h0 : (0 : Int) < (N : Int) := by omega
  have HB1 := Lib.hid (show Below w.heap.size w w1 by rw [hw]; exact bla (Below.refl _ _) _)
  have HBk := Lib.hid hblk
  have HWL := Lib.hid hwl
  have HN := Lib.hid hN
  have HN1 := Lib.hid hN1
  clear hw hblk hwl hN hN1 HSp
  have hw64 : wrap64 ((ptrs.length : Int) + 1) = (ptrs.length : Int) + 1 := IntWalk.wrap64_in _ ⟨by omega, by omega⟩
  go_wp2_with fail
  · rename_i heq hne
    go_ret
    have hs : scanF l word ptrs.length = none := by
      unfold scanF
      rw [HWL.out]
      show (if wd = word ∧ ws.length = ptrs.length then numsOf ws else none) = none
      rw [if_neg]
      rintro ⟨_, h2⟩
      have := HN1.out
      have h4 : (N : Int) ≠ (ptrs.length : Int) + 1 := by simpa using hne
      omega
    rw [hs]
    exact ⟨[], rfl, Nat.zero_le _, (fun ns h => by cases h), by rw [List.zip_nil_right]; exact HB1.out⟩
  rotate_left
  · rename_i hne
    go_ret
    have hs : scanF l word ptrs.length = none := by
      unfold scanF
      rw [HWL.out]
      show (if wd = word ∧ ws.length = ptrs.length then numsOf ws else none) = none
      rw [if_neg]
      rintro ⟨rfl, _⟩
      exact hne rfl
    rw [hs]
    exact ⟨[], rfl, Nat.zero_le _, (fun ns h => by cases h), by rw [List.zip_nil_right]; exact HB1.out⟩
  rename_i heq hnn K1 hK1
  have HNN := Lib.hid (show N = ptrs.length + 1 by
    have h4 : (N : Int) = (ptrs.length : Int) + 1 := by simpa using hnn
    omega)
  have HEQ := Lib.hid (show wd = word by
    rw [ByteArray.toList_eq, ByteArray.toList_eq, Bt_data, Bt_data] at heq
    exact heq)
  clear heq hnn hc0 h0 hw64
  go_loopw [29] (fun i wr => ∃ (q : Nat) (ms : List Int), q ≤ ptrs.length ∧ i = .int .i64 q ∧ ms.length = q ∧ numsOf (ws.take q) = some ms ∧ Hid (Below w.heap.size (setAll w (ptrs.zip ms)) wr) ∧ Hid (wr.heap[w.heap.size]? = some (.cells (((wd :: ws).map Bt).map Value.string).toArray 9 (0, 0)))) (fun i _ => ptrs.length - (intOf i).toNat)
  case atStart => exact ⟨0, [], Nat.zero_le _, rfl, rfl, rfl, Lib.hid (by rw [List.zip_nil_right]; exact HB1.out), HBk⟩
  case round =>
    obtain ⟨q, ms, hq, rfl, hms, hns, HB, HK⟩ := hrel
    by_cases hlt : q < ptrs.length
    · have hwl : ws.length = ptrs.length := by have := HN1.out; have := HNN.out; omega
      have hqw : q < ws.length := by omega
      obtain ⟨p, hpq⟩ : ∃ p, p = ptrs[q] := ⟨_, rfl⟩
      obtain ⟨x, hxq⟩ : ∃ x, ws[q]? = some x := ⟨_, List.getElem?_eq_getElem hqw⟩
      have hmem : x ∈ ws := List.mem_of_getElem? hxq
      have hpm : p ∈ ptrs := by rw [hpq]; exact List.getElem_mem hlt
      obtain ⟨hpg, hpb, cs, t, hcs, hoff⟩ := HP.out p hpm
      have hzip : ∀ y ∈ ptrs.zip ms, y.1 ∈ ptrs := fun y hy => (List.of_mem_zip hy).1
      have hgl := blk_lt HGg.out
      have hgw : wr.heap[g]? = some (.cells (ptrs.map fun p => Value.pointer (some ⟨p.1, p.2, none⟩)).toArray 90 (0, 0)) :=
        (HB.out.block g hgl).trans ((setAll_other _ _ _ (fun y hy => (HP.out _ (hzip y hy)).1)).trans HGg.out)
      have hcp : wr.cell? ⟨g, q, none⟩ = some (.pointer (some ⟨p.1, p.2, none⟩)) := by rw [show wr.cell? ⟨g, q, none⟩ = _ from bkc hgw q]; simp [hlt, hpq]
      have hcx : wr.cell? ⟨w.heap.size, q + 1, none⟩ = some (.string (Bt x)) := by rw [show wr.cell? ⟨w.heap.size, q + 1, none⟩ = _ from bkc HK.out (q + 1)]; simp [hxq]
      have hlow2 : Below w0.heap.size w0 wr := (HLow.out.trans (setAll_below _ _ _ (fun y hy => (HP.out _ (hzip y hy)).2.1))).trans ⟨HB.out.os, HB.out.tape, HB.out.output, HB.out.size, fun k hk => HB.out.block k (by have := HLow.out.size; omega)⟩
      have HGr := Lib.hid (HG0.out.below hlow2)
      have HX := Lib.hid hxq
      have HPQ := Lib.hid hpq
      have HM := Lib.hid (And.intro hms hns)
      clear hxq hpq hlow2 hzip hms hns hwl hqw
      obtain ⟨k1, k2, k3, k4, k5⟩ := scan_bounds q ptrs.length N hlt hpl HNN.out
      have hxl : x.length ≤ 1048576 := Nat.le_trans (wordsL_len 32 l x (by rw [HWL.out]; exact List.mem_cons_of_mem _ hmem)) hl
      go_wp2_with fail
      refine (number_go x (by omega) wr HGr.out).mono ?_
      rintro e w3 ⟨rfl, hb3⟩
      have HB3 := Lib.hid hb3
      obtain ⟨nv, hnv⟩ : ∃ nv, nv = (numF x).1 := ⟨_, rfl⟩
      obtain ⟨ok, hok⟩ : ∃ ok, ok = (numF x).2 := ⟨_, rfl⟩
      rw [← hnv, ← hok]
      obtain ⟨cs', hs1, hs2⟩ := setAll_shape (ptrs.zip ms) w p.1 cs t hcs
      have hpl2 := blk_lt hcs
      have hc3 : w3.heap[p.1]? = some (.cells cs' t (0, 0)) := (hb3.block p.1 (by have := HB.out.size; rw [setAll_size] at this; omega)).trans ((HB.out.block p.1 hpl2).trans hs1)
      have hcc3 : w3.cell? ⟨p.1, p.2, none⟩ = some (cs'[p.2]'(by omega)) := (bkc hc3 p.2).trans (Array.getElem?_eq_getElem (by omega))
      have hcf3 : w3.frozen? ⟨p.1, p.2, none⟩ = false := bkf hc3 p.2
      obtain ⟨ov, hov⟩ : ∃ ov, ov = cs'[p.2]'(by omega) := ⟨_, rfl⟩
      rw [← hov] at hcc3
      have HNV := Lib.hid hnv
      have HOK := Lib.hid hok
      have HPB := Lib.hid (And.intro hpl2 hpm)
      clear hb3 hnv hok hs1 hs2 hc3 hov hpl2 hxl hmem hpm hcs hgw hcp hcx hoff
      cases ok with
      | false =>
        go_wp2_with fail
        go_ret
        have hs : scanF l word ptrs.length = none := by
          unfold scanF
          rw [HWL.out]
          show (if wd = word ∧ ws.length = ptrs.length then numsOf ws else none) = none
          split
          · rw [← List.take_append_drop (q + 1) ws]
            refine numsOf_none _ _ ?_
            rw [List.take_add_one, HX.out, Option.toList_some, numsOf_snoc, HM.out.2]
            show (if (numF x).2 = true then _ else none) = none
            rw [← HOK.out]
            rfl
          · rfl
        rw [hs]
        exact ⟨ms, rfl, by rw [HM.out.1]; exact hq, (fun ns h => by cases h), below_then HB.out (by have := HB.out.size; rw [setAll_size] at this; exact this) HB3.out⟩
      | true =>
        go_wp2_with fail
        have hns2 : numsOf (ws.take (q + 1)) = some (ms ++ [nv]) := by
          rw [List.take_add_one, HX.out, Option.toList_some, numsOf_snoc, HM.out.2]
          show (if (numF x).2 = true then _ else none) = _
          rw [← HOK.out, if_pos rfl, HNV.out]
        have hz : setAll w (ptrs.zip (ms ++ [nv])) = (setAll w (ptrs.zip ms)).setCell ⟨p.1, p.2, none⟩ (.int .i64 nv) := by
          rw [zip_snoc ms ptrs nv (by rw [HM.out.1]; exact hlt), setAll_snoc]
          simp only [HM.out.1, HPQ.out]
        have hbz : Below w.heap.size (setAll w (ptrs.zip (ms ++ [nv]))) (w3.setCell ⟨p.1, p.2, none⟩ (.int .i64 nv)) := by
          rw [hz]
          exact below_set_both (below_then HB.out (by have := HB.out.size; rw [setAll_size] at this; exact this) HB3.out) _ HPB.out.1 _
        have hk4 : (w3.setCell ⟨p.1, p.2, none⟩ (.int .i64 nv)).heap[w.heap.size]? = some (.cells (((wd :: ws).map Bt).map Value.string).toArray 9 (0, 0)) :=
          (Below.heap_setCell _ _ _ _ (by have := HPB.out.1; show w.heap.size ≠ p.1; omega)).trans ((HB3.out.block _ (blk_lt HK.out)).trans HK.out)
        go_roundw
        case rel => exact ⟨q + 1, ms ++ [nv], by omega, by go_num, by rw [List.length_append, HM.out.1]; rfl, hns2, Lib.hid hbz, Lib.hid hk4⟩
        case measure => simp [intOf]; omega
    · obtain rfl : q = ptrs.length := by omega
      have hwl : ws.length = ptrs.length := by have := HN1.out; have := HNN.out; omega
      have hs : scanF l word ptrs.length = some ms := by
        unfold scanF
        rw [HWL.out]
        show (if wd = word ∧ ws.length = ptrs.length then numsOf ws else none) = some ms
        rw [if_pos ⟨HEQ.out, hwl⟩]
        rw [← hwl, List.take_length] at hns
        exact hns
      have HS := Lib.hid hs
      have HMS := Lib.hid hms
      clear hs hms hns hwl
      go_wp2_with fail
      go_ret
      rw [HS.out]
      exact ⟨ms, rfl, Nat.le_of_eq HMS.out, (fun ns h => Option.some.inj h), HB.out⟩
end
end Go.Proofs.YtndojpcjhkncgaaGreatDoor.Q
end
section
namespace Go.Proofs.YtndojpcjhkncgaaGreatDoor.Q
open Go.RowKit Go.Proofs.YtndojpcjhkncgaaGreatDoorW.PrintWords
section
theorem Ev.pos {α : Type} {c : Prop} [Decidable c] {f g : Nat → Option α} {r : α} (h : c) (k : Ev f r) : Ev (fun n => if c then f n else g n) r := Ev.congr (fun n => if_pos h) k
theorem Ev.neg {α : Type} {c : Prop} [Decidable c] {f g : Nat → Option α} {r : α} (h : ¬ c) (k : Ev g r) : Ev (fun n => if c then f n else g n) r := Ev.congr (fun n => if_neg h) k
theorem Ev.ret {α : Type} {a r : α} (h : a = r) : Ev (fun _ => some a) r := by subst h; exact Ev.now a
theorem Ev.eq {α : Type} {g : Nat → Option α} {r s : α} (h : Ev g r) (e : r = s) : Ev g s := e ▸ h
theorem Ev.const {α β : Type} {o : Option α} {f : Nat → α → Option β} {a : α} {r : β} (h : o = some a) (k : Ev (fun n => f n a) r) : Ev (fun n => o.bind (f n)) r := by subst h; exact k
theorem Ev.fix {α : Type} {o : Option α} {a : α} (h : o = some a) : Ev (fun _ => o) a := ⟨0, fun _ _ => h⟩
theorem w64 {n : Int} (h : -9223372036854775808 ≤ n) (h' : n ≤ 9223372036854775807) : wrap64 n = n := IntWalk.wrap64_in n ⟨h, h'⟩
theorem drop_get {α : Type} (L : List α) (i : Nat) (h : i < L.length) : L.drop i = L[i] :: L.drop (i + 1) := List.drop_eq_getElem_cons h
end
end Go.Proofs.YtndojpcjhkncgaaGreatDoor.Q
end
section
namespace Go.Proofs.YtndojpcjhkncgaaGreatDoor.Q
open Go.RowKit Go.Proofs.YtndojpcjhkncgaaGreatDoorW.PrintWords Go.Proofs.YtndojpcjhkncgaaGreatDoorW.PrintLast Go.Proofs.YtndojpcjhkncgaaGreatDoorW.PrintMore
section
def bank_counts.f (a0 : Int) : Option (Bool) := if a0 ≥ 1 then (some (decide (a0 ≤ 1099511627776))) else (some false)
set_option maxHeartbeats 8000000 in
set_option maxRecDepth 100000 in
theorem bank_counts.calls (a0 : Int) (r : Bool) (w : World) (h : bank_counts.f a0 = some r) :
  Calls Tryz.prog 53 #[.int .i64 a0] w fun e w' => e = .returned (.bool r) ∧ Drawn0 w w' := by
 have H : (if a0 ≥ 1 then (some (decide (a0 ≤ 1099511627776))) else (some false)) = some r := h; clear h
 by_cases c2 : a0 ≥ 1
 ·
  rw [if_pos c2] at H
  have c2b0 := decide_eq_true c2; clear c2; obtain rfl := Option.some.inj H
  go_enter Tryz.func53, Tryz.ntmps53
  go_wp2
  go_ret
  exact ⟨by first | rfl | (simp; done) | (simp [*]; done), by repeat (first | exact Drawn0.refl _ | apply Drawn0.step)⟩
 ·
  rw [if_neg c2] at H
  have c2b0 := decide_eq_false c2; clear c2; obtain rfl := Option.some.inj H
  go_enter Tryz.func53, Tryz.ntmps53
  go_wp2
  go_ret
  exact ⟨by first | rfl | (simp; done) | (simp [*]; done), by repeat (first | exact Drawn0.refl _ | apply Drawn0.step)⟩
end
end Go.Proofs.YtndojpcjhkncgaaGreatDoor.Q
end
section
namespace Go.Proofs.YtndojpcjhkncgaaGreatDoor.Q
open Go Go.RowKit Go.Proofs.YtndojpcjhkncgaaGreatDoorW.PrintWords Go.Proofs.YtndojpcjhkncgaaGreatDoorW.PrintLast Go.Proofs.YtndojpcjhkncgaaGreatDoorW.PrintMore
section
theorem zB {w W : World} (h : Below w.heap.size w W := by repeat (first | (with_reducible first | exact Zs.out (by assumption) | apply bla | apply pw_below_drewN | apply below_drew1 | refine below_set ?_ (Zs.out (by assumption))) | exact Zs.out (by assumption))) : Below w.heap.size w W := h
theorem zBs {w W w2 : World} (hb : Below W.heap.size W w2) (h : Below w.heap.size w W := by repeat (first | (with_reducible first | exact Zs.out (by assumption) | apply bla | apply pw_below_drewN | apply below_drew1 | refine below_set ?_ (Zs.out (by assumption))) | exact Zs.out (by assumption))) : Zs (Below w.heap.size w w2) := ⟨below_step h hb⟩
theorem zG {w W : World} {g : Nat} (hg : g = W.heap.size) (h : Below w.heap.size w W := by repeat (first | (with_reducible first | exact Zs.out (by assumption) | apply bla | apply pw_below_drewN | apply below_drew1 | refine below_set ?_ (Zs.out (by assumption))) | exact Zs.out (by assumption))) : Zs (w.heap.size ≤ g) := ⟨by rw [hg]; exact bsz h⟩
theorem zK {w W : World} {g : Nat} {o : Obj} (b : Zs (w.heap[g]? = some o)) (h : Below w.heap.size w W := by with_reducible repeat (first | exact Below.refl _ _ | apply bla | apply pw_below_drewN | apply below_drew1)) : W.heap[g]? = some o := blk_below b.out h
theorem zKb {w W w2 : World} {g : Nat} {o : Obj} (b : Zs (w.heap[g]? = some o)) (hb : Below W.heap.size W w2) (h : Below w.heap.size w W := by with_reducible repeat (first | exact Below.refl _ _ | apply bla | apply pw_below_drewN | apply below_drew1)) : Zs (w2.heap[g]? = some o) := ⟨blk_below (blk_below b.out h) hb⟩
theorem zfar {w : World} {g k j : Nat} {t : TypeId} {cs : Array Value} (h : w.heap[g]? = some (.cells cs t (0, 0))) (hp : Zs (g ≠ k)) (u : Value) : (w.setCell ⟨k, j, none⟩ u).heap[g]? = some (.cells cs t (0, 0)) := blk_far h hp.out u
theorem zF {w W : World} {g : Nat} {o : Obj} (b : Zs (w.heap[g]? = some o)) (h : W.heap[g]? = some o := by (with_reducible repeat (first | apply blk_drewN | apply blk_drew | apply blk_alloc | refine zfar ?_ (by assumption) _)); exact Zs.out (by assumption)) : W.heap[g]? = some o := h
theorem zN {W : World} {g k : Nat} {o : Obj} (hg : g = W.heap.size) (h : W.heap[k]? = some o) : Zs (k ≠ g) := ⟨by rw [hg]; exact Nat.ne_of_lt (blk_lt h)⟩
theorem zM {W : World} {g k : Nat} {o : Obj} (hg : g = W.heap.size) (h : W.heap[k]? = some o) : Zs (g ≠ k) := ⟨by rw [hg]; exact Nat.ne_of_gt (blk_lt h)⟩
theorem zL {w W : World} (HB : Zs (Below w.heap.size w W)) {a : Addr} {v : Value} (hc : w.cell? a = some v) : W.cell? a = some v := (HB.out.cell (World.block_lt_of_cell? w _ hc)).trans hc
theorem zD {p : Prop} [Decidable p] (h : decide p = true := by first | (with_reducible assumption) | assumption) : p := of_decide_eq_true h
theorem zE {α : Type _} {a b : α} (h : a = b := by first | rfl | (simp [errW_none, errW_some] <;> rfl) | (simp [*, errW_none, errW_some] <;> rfl)) : a = b := h
theorem zR {α : Type} {d : Kd α} {e w W base ok v xs} (b : Zs (Kd.R d e w base ok v xs)) (h : Below w.heap.size w W := by with_reducible repeat (first | exact Below.refl _ _ | apply bla | apply pw_below_drewN | apply below_drew1)) : Kd.R d e W base ok v xs := Kd.R_below b.out h
theorem zS {α : Type} {d : Kd α} {e w W base ok v xs} (b : Zs (Kd.S d e w base ok v xs)) (h : Below w.heap.size w W := by with_reducible repeat (first | exact Below.refl _ _ | apply bla | apply pw_below_drewN | apply below_drew1)) : Kd.S d e W base ok v xs := Kd.S_below b.out h
theorem zV {α : Type} {d : Kd α} {e w W base ok v xs} (b : Zs (Kd.V d e w base ok v xs)) (h : Below w.heap.size w W := by with_reducible repeat (first | exact Below.refl _ _ | apply bla | apply pw_below_drewN | apply below_drew1)) : Kd.V d e W base ok v xs := Kd.V_below b.out h
theorem zC2 {w : World} {g : Nat} {t : TypeId} {a c : Value} (b : Zs (w.heap[g]? = some (.cells #[a, c] t (0, 0)))) : w.cell? ⟨g, 0, none⟩ = some a ∧ w.cell? ⟨g, 1, none⟩ = some c := ⟨(bkc b.out 0).trans rfl, (bkc b.out 1).trans rfl⟩
theorem zC3 {w : World} {g : Nat} {t : TypeId} {a c d : Value} (b : Zs (w.heap[g]? = some (.cells #[a, c, d] t (0, 0)))) : w.cell? ⟨g, 0, none⟩ = some a ∧ w.cell? ⟨g, 1, none⟩ = some c ∧ w.cell? ⟨g, 2, none⟩ = some d := ⟨(bkc b.out 0).trans rfl, (bkc b.out 1).trans rfl, (bkc b.out 2).trans rfl⟩
theorem zC5 {w : World} {g : Nat} {t : TypeId} {a c d e f : Value} (b : Zs (w.heap[g]? = some (.cells #[a, c, d, e, f] t (0, 0)))) : w.cell? ⟨g, 0, none⟩ = some a ∧ w.cell? ⟨g, 1, none⟩ = some c ∧ w.cell? ⟨g, 2, none⟩ = some d ∧ w.cell? ⟨g, 3, none⟩ = some e ∧ w.cell? ⟨g, 4, none⟩ = some f := ⟨(bkc b.out 0).trans rfl, (bkc b.out 1).trans rfl, (bkc b.out 2).trans rfl, (bkc b.out 3).trans rfl, (bkc b.out 4).trans rfl⟩
theorem zZ {w : World} {g : Nat} {t : TypeId} {cs : Array Value} (b : Zs (w.heap[g]? = some (.cells cs t (0, 0)))) : ∀ i, w.frozen? ⟨g, i, none⟩ = false := fun i => bkf b.out i
theorem zZ2 {w : World} {g : Nat} {t : TypeId} {cs : Array Value} (b : Zs (w.heap[g]? = some (.cells cs t (0, 0)))) : w.frozen? ⟨g, 0, none⟩ = false ∧ w.frozen? ⟨g, 1, none⟩ = false := ⟨zZ b 0, zZ b 1⟩
theorem zZ3 {w : World} {g : Nat} {t : TypeId} {cs : Array Value} (b : Zs (w.heap[g]? = some (.cells cs t (0, 0)))) : w.frozen? ⟨g, 0, none⟩ = false ∧ w.frozen? ⟨g, 1, none⟩ = false ∧ w.frozen? ⟨g, 2, none⟩ = false := ⟨zZ b 0, zZ b 1, zZ b 2⟩
theorem zZ5 {w : World} {g : Nat} {t : TypeId} {cs : Array Value} (b : Zs (w.heap[g]? = some (.cells cs t (0, 0)))) : w.frozen? ⟨g, 0, none⟩ = false ∧ w.frozen? ⟨g, 1, none⟩ = false ∧ w.frozen? ⟨g, 2, none⟩ = false ∧ w.frozen? ⟨g, 3, none⟩ = false ∧ w.frozen? ⟨g, 4, none⟩ = false := ⟨zZ b 0, zZ b 1, zZ b 2, zZ b 3, zZ b 4⟩
def zm (n k : Nat) : Array Bool := ((List.range n).map fun i => k.testBit i).toArray
abbrev zo (n : Nat) : Array Bool := Array.replicate n false
theorem z1 {α : Type _} {l : List α} {i : Nat} {a : α} : l.toArray.setIfInBounds i a = (l.set i a).toArray := by simp
theorem z2 {α : Type _} {x : α} {xs : List α} {a : α} : (x :: xs).set 0 a = a :: xs := rfl
theorem z3 {α : Type _} {x : α} {xs : List α} {n : Nat} {a : α} : (x :: xs).set (n + 1) a = x :: xs.set n a := rfl
theorem zp {P : Program} {md : Region.Mode} {ops : Array Oper} {Q : Exit → Act → World → Prop} {S : World → Prop} {ds : List Nat} {oi : Oper} {fuel : Nat} {l : Array Bool} {a : Act} {w : World} {v : Value} {a' : Act} {T : Bool × List (List Nat × List Nat)} (i : Nat) (d : Tmp) (l' : Array Bool)
    (h : wpAnyLast P md ops Q S ds fuel l' a' w) (hi : ops[i]? = some oi := by rfl) (hN : oi.dst = some d := by rfl) (hT : Zs (rtab md ops = T) := by assumption) (hc : anyT T l.toList l'.toList i = true := by kernel_rfl)
    (hQ : ∀ c a w, Q (.panic c) (a.put oi.dst v) w → Q (.panic c) a w := by exact fun _ _ _ h => h) (hy : Yields P ops oi v a := by exact Or.inl ⟨by rfl, by intro w'; go_simp; with_reducible rfl⟩)
    (ha : a.put (some d) v = a' := by simp only [Act.put, z1, z2, z3, i64_w, i32_w]; rfl) : wpAnyLast P md ops Q S ds (fuel + 1) l a w := pure_ (i := i) (N := some d) (v := v) (a' := a') l' hi hN (any_of hT.out hc) hQ hy ha h
theorem zpo {P : Program} {md : Region.Mode} {ops : Array Oper} {Q : Exit → Act → World → Prop} {S : World → Prop} {ds : List Nat} {oi : Oper} {fuel : Nat} {l : Array Bool} {a : Act} {w : World} {a' : Act} {T : Bool × List (List Nat × List Nat)} (i : Nat) (d : Tmp) (l' : Array Bool)
    (h : wpAnyLast P md ops Q S ds fuel l' a' w) (hi : ops[i]? = some oi := by rfl) (hN : oi.dst = some d := by rfl) (hT : Zs (rtab md ops = T) := by assumption) (hc : anyT T l.toList l'.toList i = true := by kernel_rfl)
    (hQ : ∀ c a w, Q (.panic c) (a.put oi.dst undef) w → Q (.panic c) a w := by exact fun _ _ _ h => h) (hy : Yields P ops oi undef a := by exact Or.inr ⟨by rfl, rfl⟩)
    (ha : a.put (some d) undef = a' := by simp only [Act.put, z1, z2, z3, i64_w, i32_w]; rfl) : wpAnyLast P md ops Q S ds (fuel + 1) l a w := pure_ (i := i) (N := some d) (v := undef) (a' := a') l' hi hN (any_of hT.out hc) hQ hy ha h
theorem zput {w : World} {g i : Nat} {t : TypeId} {cs : Array Value} (h : w.heap[g]? = some (.cells cs t (0, 0))) (u : Value) : (w.setCell ⟨g, i, none⟩ u).heap[g]? = some (.cells (cs.setIfInBounds i u) t (0, 0)) := blk_put h i u rfl
theorem zY {w W : World} {g : Nat} {o o' o2 : Obj} (b : Zs (w.heap[g]? = some o)) (h : W.heap[g]? = some o2 := by (with_reducible repeat (first | apply blk_drewN | apply blk_drew | apply blk_alloc | (apply zfar; rotate_left; assumption; rotate_right) | apply zput)); exact Zs.out (by assumption)) (e : o2 = o' := by rfl) : W.heap[g]? = some o' := e ▸ h
theorem zQ {α : Type} {d : Kd α} {e w W base ok A c} {xs : List α} (b : Zs (Kd.R d e w base ok (.slice A xs.length c) xs)) (h : Below w.heap.size w W := by with_reducible repeat (first | exact Below.refl _ _ | apply bla | apply pw_below_drewN | apply below_drew1)) : d.C W A xs.length xs := Kd.C_below (Kd.R_reads' b.out).2.2 h
theorem zQC {α : Type} {d : Kd α} {w W : World} {A : Option Addr} {n : Nat} {xs : List α} (b : Zs (d.C w A n xs)) (h : Below w.heap.size w W := by repeat (first | (with_reducible first | exact Zs.out (by assumption) | apply bla | apply pw_below_drewN | apply below_drew1 | refine below_set ?_ (Zs.out (by assumption))) | exact Zs.out (by assumption))) : d.C W A n xs := Kd.C_below b.out h
theorem zRb {α : Type} {d : Kd α} {e w W w2 base ok v xs} (b : Zs (Kd.R d e w base ok v xs)) (hb : Below W.heap.size W w2) (h : Below w.heap.size w W := by with_reducible repeat (first | exact Below.refl _ _ | apply bla | apply pw_below_drewN | apply below_drew1)) : Zs (Kd.R d e w2 base ok v xs) := ⟨Kd.R_below (Kd.R_below b.out h) hb⟩
theorem zJ3 {a b c d : Prop} (h : a ∧ b ∧ c) (k : d) : a ∧ b ∧ c ∧ d := ⟨h.1, h.2.1, h.2.2, k⟩
theorem zgo {P : Program} {ops : Array Oper} {Q : Exit → Act → World → Prop} {rest : List Oper} {oi : Oper} {a : Act} {w : World} (N : Option Tmp) {f : FuncId} {fn : Func} {as_ : Array Operand} {ts : Array TypeId} (hf : P.funcs[f]? = some fn) (args : Array Value)
    (h : Calls P f args w fun e w' => ∃ v, e = .returned v ∧ wpList P ops Q rest (a.put N v) w') (hd : oi.dst = N := by rfl) (hg : oi.guard = none := by rfl) (hname : (fn.name == "runtime.NumGoroutine") = false := by kernel_rfl) (hb : fn.body.isSome = true := by rfl)
    (hop : oi.op = .call { callee := .value (.func f), args := as_, argTypes := ts } := by rfl) (hargs : as_.map a.eval = args := by (try simp only [List.map_toArray, List.map_cons, List.map_nil]); try rfl) : wpList P ops Q (oi :: rest) a w := goesL_ N hd hg hf hname hb args hop hargs h
theorem zr {P : Program} {md : Region.Mode} {ops : Array Oper} {Q : Exit → Act → World → Prop} {S : World → Prop} {ds : List Nat} {oi : Oper} {fuel : Nat} {l : Array Bool} {a : Act} {w : World} {v : Value} {a' : Act} (i : Nat) (d : Tmp) (l' : Array Bool)
    (h : wpAnyLast P md ops Q S ds fuel l' a' w) (hi : ops[i]? = some oi := by rfl) (hN : oi.dst = some d := by rfl) (hc : anyB md ops l l' i = true := by kernel_rfl)
    (hQ : ∀ c a w, Q (.panic c) (a.put oi.dst v) w → Q (.panic c) a w := by exact fun _ _ _ h => h) (hy : Yields P ops oi v a := by exact Or.inl ⟨by rfl, by intro w'; go_simp; with_reducible rfl⟩)
    (ha : a.put (some d) v = a' := by simp only [Act.put, z1, z2, z3]; rfl) : wpAnyLast P md ops Q S ds (fuel + 1) l a w := pure_ (i := i) (N := some d) (v := v) (a' := a') l' hi hN hc hQ hy ha h
theorem zro {P : Program} {md : Region.Mode} {ops : Array Oper} {Q : Exit → Act → World → Prop} {S : World → Prop} {ds : List Nat} {oi : Oper} {fuel : Nat} {l : Array Bool} {a : Act} {w : World} {a' : Act} (i : Nat) (d : Tmp) (l' : Array Bool)
    (h : wpAnyLast P md ops Q S ds fuel l' a' w) (hi : ops[i]? = some oi := by rfl) (hN : oi.dst = some d := by rfl) (hc : anyB md ops l l' i = true := by kernel_rfl)
    (hQ : ∀ c a w, Q (.panic c) (a.put oi.dst undef) w → Q (.panic c) a w := by exact fun _ _ _ h => h) (hy : Yields P ops oi undef a := by exact Or.inr ⟨by rfl, rfl⟩)
    (ha : a.put (some d) undef = a' := by simp only [Act.put, z1, z2, z3]; rfl) : wpAnyLast P md ops Q S ds (fuel + 1) l a w := pure_ (i := i) (N := some d) (v := undef) (a' := a') l' hi hN hc hQ hy ha h
theorem zt5 {P : Program} {md : Region.Mode} {ops : Array Oper} {Q : Exit → Act → World → Prop} {S : World → Prop} {ds : List Nat} {oi : Oper} {fuel : Nat} {l : Array Bool} {a : Act} {w : World} {v : Value} {a' : Act} (i : Nat) (d : Tmp) (l' : Array Bool) (hS : S w)
    (h : wpAnyLast P md ops Q S ds fuel l' a' w) (hi : ops[i]? = some oi := by rfl) (hN : oi.dst = some d := by rfl) (hc : takeB md ops ds l l' i = true := by kernel_rfl)
    (hQ : ∀ c a w, Q (.panic c) (a.put oi.dst v) w → Q (.panic c) a w := by exact fun _ _ _ h => h) (hy : YieldsIf P ops S oi v a := by exact Or.inl ⟨by rfl, by rintro w' ⟨s0, s1, s2, s3, s4⟩; go_simp; with_reducible rfl⟩)
    (ha : a.put (some d) v = a' := by simp only [Act.put, z1, z2, z3]; rfl) : wpAnyLast P md ops Q S ds (fuel + 1) l a w := take_ (i := i) (N := some d) (v := v) (a' := a') l' hi hN hc hQ hy hS ha h
theorem zn {P : Program} {md : Region.Mode} {ops : Array Oper} {Q : Exit → Act → World → Prop} {S : World → Prop} {ds : List Nat} {fuel : Nat} {l : Array Bool} {a a' : Act} {w : World} (h : wpAnyLast P md ops Q S ds fuel l a' w)
    (ha : a = a' := by first | (simp only [putAll, Act.put, List.setIfInBounds_toArray, List.set_cons_zero, List.set_cons_succ]; done) | (simp only [putAll, Act.put, List.setIfInBounds_toArray, List.set_cons_zero, List.set_cons_succ]; rfl)) : wpAnyLast P md ops Q S ds fuel l a w := norm_ ha h
theorem zc {P : Prop} [Decidable P] {α : Type _} {x : Option α} {r : α} (H : (if P then x else none) = some r) : P := by
  by_cases h : P
  · exact h
  · rw [if_neg h] at H
    cases H
theorem zcn {P : Prop} [Decidable P] {α : Type _} {x : Option α} {r : α} (H : (if P then none else x) = some r) : ¬ P := by
  intro h
  rw [if_pos h] at H
  cases H
theorem zb {α β : Type _} {o : Option α} {f : α → Option β} {r : β} (H : o.bind f = some r) : ∃ a, Zs (o = some a) ∧ f a = some r := by
  obtain ⟨a, h1, h2⟩ := Option.bind_eq_some_iff.mp H
  exact ⟨a, ⟨h1⟩, h2⟩
theorem zeq {α : Type _} [BEq α] [LawfulBEq α] {a b : α} (h : a = b) : (a == b) = true ∧ (a != b) = false := ⟨beq_iff_eq.mpr h, bne_eq_false_iff_eq.mpr h⟩
theorem zne {α : Type _} [BEq α] [LawfulBEq α] {a b : α} (h : ¬ a = b) : (a == b) = false ∧ (a != b) = true := ⟨beq_eq_false_iff_ne.mpr h, bne_iff_ne.mpr h⟩
theorem zs {p : Prop} (h : p := by first | rfl | (simp; done) | (simp [*]; done)) : p := h
end
end Go.Proofs.YtndojpcjhkncgaaGreatDoor.Q
end
section
namespace Go.Proofs.YtndojpcjhkncgaaGreatDoor.Q
open Go.RowKit Go.Proofs.YtndojpcjhkncgaaGreatDoorW.PrintWords Go.Proofs.YtndojpcjhkncgaaGreatDoorW.PrintLast Go.Proofs.YtndojpcjhkncgaaGreatDoorW.PrintMore
section
def bank_dated.f (a0 : Int) (a1 : Int) : Option (Bool) := (bank_counts.f a0).bind fun t110 => (if t110 = true then (if a1 ≥ 0 then (some (decide (a1 < 65536))) else (some false)) else (some false))
set_option maxHeartbeats 8000000 in
set_option maxRecDepth 100000 in
theorem bank_dated.calls (a0 : Int) (a1 : Int) (r : Bool) (w : World) (h : bank_dated.f a0 a1 = some r) :
  Calls Tryz.prog 42 #[.int .i64 a0, .int .i64 a1] w fun e w' => e = .returned (.bool r) ∧ Drawn0 w w' := by
 have H : ((bank_counts.f a0).bind fun t110 => (if t110 = true then (if a1 ≥ 0 then (some (decide (a1 < 65536))) else (some false)) else (some false))) = some r := h; clear h; obtain ⟨t110, A3, H⟩ := zb H; (try dsimp only [-Int.reduceToNat] at H)
 by_cases c4 : t110 = true
 ·
  subst c4
  rw [if_pos rfl] at H
  by_cases c5 : a1 ≥ 0
  ·
   rw [if_pos c5] at H
   have c5b0 := decide_eq_true c5; clear c5; obtain rfl := Option.some.inj H
   go_enter Tryz.func42, Tryz.ntmps42
   go_wp2_with (first | ((with_reducible refine gkc (f := 53) rfl ?_); refine zgo (some 6) Tryz.func53 #[.int .i64 a0] ?_; (with_reducible refine (bank_counts.calls a0 true _ A3.out).mono ?_); rintro e w' ⟨rfl, ⟨nd, rfl⟩⟩; refine ⟨_, rfl, ?_⟩))
   go_ret
   exact ⟨by first | rfl | (simp; done) | (simp [*]; done), by repeat (first | exact Drawn0.refl _ | apply Drawn0.step)⟩
  ·
   rw [if_neg c5] at H
   have c5b0 := decide_eq_false c5; clear c5; obtain rfl := Option.some.inj H
   go_enter Tryz.func42, Tryz.ntmps42
   go_wp2_with (first | ((with_reducible refine gkc (f := 53) rfl ?_); refine zgo (some 6) Tryz.func53 #[.int .i64 a0] ?_; (with_reducible refine (bank_counts.calls a0 true _ A3.out).mono ?_); rintro e w' ⟨rfl, ⟨nd, rfl⟩⟩; refine ⟨_, rfl, ?_⟩))
   go_ret
   exact ⟨by first | rfl | (simp; done) | (simp [*]; done), by repeat (first | exact Drawn0.refl _ | apply Drawn0.step)⟩
 ·
  replace c4 := Bool.eq_false_iff.mpr c4; subst c4
  rw [if_neg (show ¬ (false = true) by decide)] at H
  obtain rfl := Option.some.inj H
  go_enter Tryz.func42, Tryz.ntmps42
  go_wp2_with (first | ((with_reducible refine gkc (f := 53) rfl ?_); refine zgo (some 6) Tryz.func53 #[.int .i64 a0] ?_; (with_reducible refine (bank_counts.calls a0 false _ A3.out).mono ?_); rintro e w' ⟨rfl, ⟨nd, rfl⟩⟩; refine ⟨_, rfl, ?_⟩))
  go_ret
  exact ⟨by first | rfl | (simp; done) | (simp [*]; done), by repeat (first | exact Drawn0.refl _ | apply Drawn0.step)⟩
end
section
def bank_right.f (a0_0 : Int) (a0_1 : Int) (a0_2 : Int) (a0_3 : Int) (a0_4 : Int) : Option (Bool) := (bank_counts.f a0_0).bind fun t112 => (if t112 = true then ((bank_counts.f a0_1).bind fun t113 => (if t113 = true then (if a0_2 ≥ 0 then (if a0_2 ≤ 1099511627776 then (if a0_3 ≥ (-1099511627776) then (if a0_3 ≤ a0_2 then (if a0_4 = (wrap64 (a0_2 - a0_3)) then (some (decide (a0_4 ≤ 1099511627776))) else (some false)) else (some false)) else (some false)) else (some false)) else (some false)) else (some false))) else (some false))
set_option maxHeartbeats 8000000 in
set_option maxRecDepth 100000 in
theorem bank_right.calls (a0_0 : Int) (a0_1 : Int) (a0_2 : Int) (a0_3 : Int) (a0_4 : Int) (r : Bool) (w : World) (h : bank_right.f a0_0 a0_1 a0_2 a0_3 a0_4 = some r) :
  Calls Tryz.prog 43 #[.agg #[.int .i64 a0_0, .int .i64 a0_1, .int .i64 a0_2, .int .i64 a0_3, .int .i64 a0_4]] w fun e w' => e = .returned (.bool r) ∧ Below w.heap.size w w' := by
 have hu47 := Tryz.underlying47; have HB := Zs.mk (Below.refl w.heap.size w); have H : ((bank_counts.f a0_0).bind fun t112 => (if t112 = true then ((bank_counts.f a0_1).bind fun t113 => (if t113 = true then (if a0_2 ≥ 0 then (if a0_2 ≤ 1099511627776 then (if a0_3 ≥ (-1099511627776) then (if a0_3 ≤ a0_2 then (if a0_4 = (wrap64 (a0_2 - a0_3)) then (some (decide (a0_4 ≤ 1099511627776))) else (some false)) else (some false)) else (some false)) else (some false)) else (some false)) else (some false))) else (some false))) = some r := h; clear h; obtain ⟨t112, A2, H⟩ := zb H; (try dsimp only [-Int.reduceToNat] at H)
 by_cases c3 : t112 = true
 ·
  subst c3
  rw [if_pos rfl] at H
  obtain ⟨t113, A4, H⟩ := zb H; (try dsimp only [-Int.reduceToNat] at H)
  by_cases c5 : t113 = true
  ·
   subst c5
   rw [if_pos rfl] at H
   by_cases c6 : a0_2 ≥ 0
   ·
    rw [if_pos c6] at H
    have c6b0 := decide_eq_true c6; clear c6
    by_cases c7 : a0_2 ≤ 1099511627776
    ·
     rw [if_pos c7] at H
     have c7b0 := decide_eq_true c7; clear c7
     by_cases c8 : a0_3 ≥ (-1099511627776)
     ·
      rw [if_pos c8] at H
      have c8b0 := decide_eq_true c8; clear c8
      by_cases c9 : a0_3 ≤ a0_2
      ·
       rw [if_pos c9] at H
       have c9b0 := decide_eq_true c9; clear c9
       by_cases c10 : a0_4 = (wrap64 (a0_2 - a0_3))
       ·
        rw [if_pos c10] at H
        obtain ⟨c10b0, c10b1⟩ := zeq c10; clear c10; obtain rfl := Option.some.inj H
        go_enter Tryz.func43, Tryz.ntmps43
        go_wp2_with (first | ((with_reducible refine gkd (N := 1) rfl ?_); refine bxe ?hg (N := 1) ?hd (cs := #[.int .i64 a0_0, .int .i64 a0_1, .int .i64 a0_2, .int .i64 a0_3, .int .i64 a0_4]) (t := 47) ?hr ?_; (case hd => rfl); (case hg => rfl); (case hr => first | (go_simp; done) | (go_simp; rfl)); intro gb111 hg w11 hbox hb; have BK111 := Zs.mk (hbox); have GW111 := zG (w := w) hg; have GE111 := zG (w := w) hg; replace HB := zBs hb; clear hb hbox hg; obtain ⟨hcz12_0, hcz12_1, hcz12_2, hcz12_3, hcz12_4⟩ := zC5 BK111; obtain ⟨hfz12_0, hfz12_1, hfz12_2, hfz12_3, hfz12_4⟩ := zZ5 BK111) | ((with_reducible refine gkc (f := 53) rfl ?_); refine zgo (some 5) Tryz.func53 #[.int .i64 a0_0] ?_; (with_reducible refine (bank_counts.calls a0_0 true _ A2.out).mono ?_); rintro e w' ⟨rfl, ⟨nd, rfl⟩⟩; refine ⟨_, rfl, ?_⟩) | (go_at_call 53; (with_reducible refine (bank_counts.calls a0_1 true _ A4.out).mono ?_); rintro e w' ⟨rfl, ⟨nd, rfl⟩⟩))
        go_ret
        exact ⟨zE, zB⟩
       ·
        rw [if_neg c10] at H
        obtain ⟨c10b0, c10b1⟩ := zne c10; obtain rfl := Option.some.inj H
        go_enter Tryz.func43, Tryz.ntmps43
        go_wp2_with (first | ((with_reducible refine gkd (N := 1) rfl ?_); refine bxe ?hg (N := 1) ?hd (cs := #[.int .i64 a0_0, .int .i64 a0_1, .int .i64 a0_2, .int .i64 a0_3, .int .i64 a0_4]) (t := 47) ?hr ?_; (case hd => rfl); (case hg => rfl); (case hr => first | (go_simp; done) | (go_simp; rfl)); intro gb111 hg w13 hbox hb; have BK111 := Zs.mk (hbox); have GW111 := zG (w := w) hg; have GE111 := zG (w := w) hg; replace HB := zBs hb; clear hb hbox hg; obtain ⟨hcz14_0, hcz14_1, hcz14_2, hcz14_3, hcz14_4⟩ := zC5 BK111; obtain ⟨hfz14_0, hfz14_1, hfz14_2, hfz14_3, hfz14_4⟩ := zZ5 BK111) | ((with_reducible refine gkc (f := 53) rfl ?_); refine zgo (some 5) Tryz.func53 #[.int .i64 a0_0] ?_; (with_reducible refine (bank_counts.calls a0_0 true _ A2.out).mono ?_); rintro e w' ⟨rfl, ⟨nd, rfl⟩⟩; refine ⟨_, rfl, ?_⟩) | (go_at_call 53; (with_reducible refine (bank_counts.calls a0_1 true _ A4.out).mono ?_); rintro e w' ⟨rfl, ⟨nd, rfl⟩⟩))
        go_ret
        exact ⟨zE, zB⟩
      ·
       rw [if_neg c9] at H
       have c9b0 := decide_eq_false c9; clear c9; obtain rfl := Option.some.inj H
       go_enter Tryz.func43, Tryz.ntmps43
       go_wp2_with (first | ((with_reducible refine gkd (N := 1) rfl ?_); refine bxe ?hg (N := 1) ?hd (cs := #[.int .i64 a0_0, .int .i64 a0_1, .int .i64 a0_2, .int .i64 a0_3, .int .i64 a0_4]) (t := 47) ?hr ?_; (case hd => rfl); (case hg => rfl); (case hr => first | (go_simp; done) | (go_simp; rfl)); intro gb111 hg w15 hbox hb; have BK111 := Zs.mk (hbox); have GW111 := zG (w := w) hg; have GE111 := zG (w := w) hg; replace HB := zBs hb; clear hb hbox hg; obtain ⟨hcz16_0, hcz16_1, hcz16_2, hcz16_3, hcz16_4⟩ := zC5 BK111; obtain ⟨hfz16_0, hfz16_1, hfz16_2, hfz16_3, hfz16_4⟩ := zZ5 BK111) | ((with_reducible refine gkc (f := 53) rfl ?_); refine zgo (some 5) Tryz.func53 #[.int .i64 a0_0] ?_; (with_reducible refine (bank_counts.calls a0_0 true _ A2.out).mono ?_); rintro e w' ⟨rfl, ⟨nd, rfl⟩⟩; refine ⟨_, rfl, ?_⟩) | (go_at_call 53; (with_reducible refine (bank_counts.calls a0_1 true _ A4.out).mono ?_); rintro e w' ⟨rfl, ⟨nd, rfl⟩⟩))
       go_ret
       exact ⟨zE, zB⟩
     ·
      rw [if_neg c8] at H
      have c8b0 := decide_eq_false c8; clear c8; obtain rfl := Option.some.inj H
      go_enter Tryz.func43, Tryz.ntmps43
      go_wp2_with (first | ((with_reducible refine gkd (N := 1) rfl ?_); refine bxe ?hg (N := 1) ?hd (cs := #[.int .i64 a0_0, .int .i64 a0_1, .int .i64 a0_2, .int .i64 a0_3, .int .i64 a0_4]) (t := 47) ?hr ?_; (case hd => rfl); (case hg => rfl); (case hr => first | (go_simp; done) | (go_simp; rfl)); intro gb111 hg w17 hbox hb; have BK111 := Zs.mk (hbox); have GW111 := zG (w := w) hg; have GE111 := zG (w := w) hg; replace HB := zBs hb; clear hb hbox hg; obtain ⟨hcz18_0, hcz18_1, hcz18_2, hcz18_3, hcz18_4⟩ := zC5 BK111; obtain ⟨hfz18_0, hfz18_1, hfz18_2, hfz18_3, hfz18_4⟩ := zZ5 BK111) | ((with_reducible refine gkc (f := 53) rfl ?_); refine zgo (some 5) Tryz.func53 #[.int .i64 a0_0] ?_; (with_reducible refine (bank_counts.calls a0_0 true _ A2.out).mono ?_); rintro e w' ⟨rfl, ⟨nd, rfl⟩⟩; refine ⟨_, rfl, ?_⟩) | (go_at_call 53; (with_reducible refine (bank_counts.calls a0_1 true _ A4.out).mono ?_); rintro e w' ⟨rfl, ⟨nd, rfl⟩⟩))
      go_ret
      exact ⟨zE, zB⟩
    ·
     rw [if_neg c7] at H
     have c7b0 := decide_eq_false c7; clear c7; obtain rfl := Option.some.inj H
     go_enter Tryz.func43, Tryz.ntmps43
     go_wp2_with (first | ((with_reducible refine gkd (N := 1) rfl ?_); refine bxe ?hg (N := 1) ?hd (cs := #[.int .i64 a0_0, .int .i64 a0_1, .int .i64 a0_2, .int .i64 a0_3, .int .i64 a0_4]) (t := 47) ?hr ?_; (case hd => rfl); (case hg => rfl); (case hr => first | (go_simp; done) | (go_simp; rfl)); intro gb111 hg w19 hbox hb; have BK111 := Zs.mk (hbox); have GW111 := zG (w := w) hg; have GE111 := zG (w := w) hg; replace HB := zBs hb; clear hb hbox hg; obtain ⟨hcz20_0, hcz20_1, hcz20_2, hcz20_3, hcz20_4⟩ := zC5 BK111; obtain ⟨hfz20_0, hfz20_1, hfz20_2, hfz20_3, hfz20_4⟩ := zZ5 BK111) | ((with_reducible refine gkc (f := 53) rfl ?_); refine zgo (some 5) Tryz.func53 #[.int .i64 a0_0] ?_; (with_reducible refine (bank_counts.calls a0_0 true _ A2.out).mono ?_); rintro e w' ⟨rfl, ⟨nd, rfl⟩⟩; refine ⟨_, rfl, ?_⟩) | (go_at_call 53; (with_reducible refine (bank_counts.calls a0_1 true _ A4.out).mono ?_); rintro e w' ⟨rfl, ⟨nd, rfl⟩⟩))
     go_ret
     exact ⟨zE, zB⟩
   ·
    rw [if_neg c6] at H
    have c6b0 := decide_eq_false c6; clear c6; obtain rfl := Option.some.inj H
    go_enter Tryz.func43, Tryz.ntmps43
    go_wp2_with (first | ((with_reducible refine gkd (N := 1) rfl ?_); refine bxe ?hg (N := 1) ?hd (cs := #[.int .i64 a0_0, .int .i64 a0_1, .int .i64 a0_2, .int .i64 a0_3, .int .i64 a0_4]) (t := 47) ?hr ?_; (case hd => rfl); (case hg => rfl); (case hr => first | (go_simp; done) | (go_simp; rfl)); intro gb111 hg w21 hbox hb; have BK111 := Zs.mk (hbox); have GW111 := zG (w := w) hg; have GE111 := zG (w := w) hg; replace HB := zBs hb; clear hb hbox hg; obtain ⟨hcz22_0, hcz22_1, hcz22_2, hcz22_3, hcz22_4⟩ := zC5 BK111; obtain ⟨hfz22_0, hfz22_1, hfz22_2, hfz22_3, hfz22_4⟩ := zZ5 BK111) | ((with_reducible refine gkc (f := 53) rfl ?_); refine zgo (some 5) Tryz.func53 #[.int .i64 a0_0] ?_; (with_reducible refine (bank_counts.calls a0_0 true _ A2.out).mono ?_); rintro e w' ⟨rfl, ⟨nd, rfl⟩⟩; refine ⟨_, rfl, ?_⟩) | (go_at_call 53; (with_reducible refine (bank_counts.calls a0_1 true _ A4.out).mono ?_); rintro e w' ⟨rfl, ⟨nd, rfl⟩⟩))
    go_ret
    exact ⟨zE, zB⟩
  ·
   replace c5 := Bool.eq_false_iff.mpr c5; subst c5
   rw [if_neg (show ¬ (false = true) by decide)] at H
   obtain rfl := Option.some.inj H
   go_enter Tryz.func43, Tryz.ntmps43
   go_wp2_with (first | ((with_reducible refine gkd (N := 1) rfl ?_); refine bxe ?hg (N := 1) ?hd (cs := #[.int .i64 a0_0, .int .i64 a0_1, .int .i64 a0_2, .int .i64 a0_3, .int .i64 a0_4]) (t := 47) ?hr ?_; (case hd => rfl); (case hg => rfl); (case hr => first | (go_simp; done) | (go_simp; rfl)); intro gb111 hg w23 hbox hb; have BK111 := Zs.mk (hbox); have GW111 := zG (w := w) hg; have GE111 := zG (w := w) hg; replace HB := zBs hb; clear hb hbox hg; obtain ⟨hcz24_0, hcz24_1, hcz24_2, hcz24_3, hcz24_4⟩ := zC5 BK111; obtain ⟨hfz24_0, hfz24_1, hfz24_2, hfz24_3, hfz24_4⟩ := zZ5 BK111) | ((with_reducible refine gkc (f := 53) rfl ?_); refine zgo (some 5) Tryz.func53 #[.int .i64 a0_0] ?_; (with_reducible refine (bank_counts.calls a0_0 true _ A2.out).mono ?_); rintro e w' ⟨rfl, ⟨nd, rfl⟩⟩; refine ⟨_, rfl, ?_⟩) | (go_at_call 53; (with_reducible refine (bank_counts.calls a0_1 false _ A4.out).mono ?_); rintro e w' ⟨rfl, ⟨nd, rfl⟩⟩))
   go_ret
   exact ⟨zE, zB⟩
 ·
  replace c3 := Bool.eq_false_iff.mpr c3; subst c3
  rw [if_neg (show ¬ (false = true) by decide)] at H
  obtain rfl := Option.some.inj H
  go_enter Tryz.func43, Tryz.ntmps43
  go_wp2_with (first | ((with_reducible refine gkd (N := 1) rfl ?_); refine bxe ?hg (N := 1) ?hd (cs := #[.int .i64 a0_0, .int .i64 a0_1, .int .i64 a0_2, .int .i64 a0_3, .int .i64 a0_4]) (t := 47) ?hr ?_; (case hd => rfl); (case hg => rfl); (case hr => first | (go_simp; done) | (go_simp; rfl)); intro gb111 hg w25 hbox hb; have BK111 := Zs.mk (hbox); have GW111 := zG (w := w) hg; have GE111 := zG (w := w) hg; replace HB := zBs hb; clear hb hbox hg; obtain ⟨hcz26_0, hcz26_1, hcz26_2, hcz26_3, hcz26_4⟩ := zC5 BK111; obtain ⟨hfz26_0, hfz26_1, hfz26_2, hfz26_3, hfz26_4⟩ := zZ5 BK111) | ((with_reducible refine gkc (f := 53) rfl ?_); refine zgo (some 5) Tryz.func53 #[.int .i64 a0_0] ?_; (with_reducible refine (bank_counts.calls a0_0 false _ A2.out).mono ?_); rintro e w' ⟨rfl, ⟨nd, rfl⟩⟩; refine ⟨_, rfl, ?_⟩))
  go_ret
  exact ⟨zE, zB⟩
end
section
mutual
def bank_Valid.j0 : Nat → Bool → Int → Int → List (S47) → Option (Bool)
 | 0, _, _, _, _ => none
 | k + 1, x18, x115000, x115001, x115002 => if x18 = true then (some false) else (bank_Valid.l0 k 0 0 x115002 (x115002.length : Int) 0)
def bank_Valid.l0 : Nat → Int → Int → List (S47) → Int → Int → Option (Bool)
 | 0, _, _, _, _, _ => none
 | k + 1, x3, x4, x20, x21, x22 => if x22 < x21 then (if 0 ≤ x22 then (if x22 < (x20.length : Int) then ((bank_right.f ((rTO x20 x22).f0) ((rTO x20 x22).f1) ((rTO x20 x22).f2) ((rTO x20 x22).f3) ((rTO x20 x22).f4)).bind fun t118 => (if t118 = true then (if ((rTO x20 x22).f0) ≤ x3 then (some false) else (if (wrap64 (x4 + ((rTO x20 x22).f4))) > 1099511627776 then (some false) else (bank_Valid.l0 k ((rTO x20 x22).f0) (wrap64 (x4 + ((rTO x20 x22).f4))) x20 x21 (wrap64 (x22 + 1))))) else (some false))) else (none)) else (none)) else (some true)
end
def bank_Valid.f (k : Nat) (a0_0 : Int) (a0_1 : Int) (l0_2 : List (S47)) : Option (Bool) := (bank_dated.f a0_0 a0_1).bind fun t115 => (if t115 = true then (bank_Valid.j0 k (decide ((l0_2.length : Int) > 1000)) a0_0 a0_1 l0_2) else (bank_Valid.j0 k true a0_0 a0_1 l0_2))
set_option maxHeartbeats 8000000 in
set_option maxRecDepth 100000 in
theorem bank_Valid.calls (k : Nat) (a0_0 : Int) (a0_1 : Int) (A0_2 : Option Addr) (c0_2 : Nat) (l0_2 : List (S47)) (r : Bool) (w : World) (hr0_2 : Kd.C k47 w A0_2 l0_2.length l0_2) (hc0_2 : l0_2.length ≤ c0_2) (h : bank_Valid.f k a0_0 a0_1 l0_2 = some r) :
  Calls Tryz.prog 22 #[.agg #[.int .i64 a0_0, .int .i64 a0_1, .slice A0_2 l0_2.length c0_2]] w fun e w' => e = .returned (.bool r) ∧ Below w.heap.size w w' := by
 have hu27 := Tryz.underlying27; have hu47 := Tryz.underlying47; have HR0_2 := Zs.mk hr0_2; have HC0_2 := Zs.mk hc0_2; clear hr0_2 hc0_2; have HB := Zs.mk (Below.refl w.heap.size w); have H : ((bank_dated.f a0_0 a0_1).bind fun t115 => (if t115 = true then (bank_Valid.j0 k (decide ((l0_2.length : Int) > 1000)) a0_0 a0_1 l0_2) else (bank_Valid.j0 k true a0_0 a0_1 l0_2))) = some r := h; clear h; have HC2 := Zs.mk H; clear H
 go_enter Tryz.func22, Tryz.ntmps22
 go_upto_region 1 with (first | ((with_reducible refine gkd (N := 1) rfl ?_); (try (refine gate_guard (by rfl) ?_; dsimp only)); refine bxe ?hg (N := 1) ?hd (cs := #[.int .i64 a0_0, .int .i64 a0_1, .slice A0_2 l0_2.length c0_2]) (t := 27) ?hr ?_; (case hd => rfl); (case hg => rfl); (case hr => first | (go_simp; done) | (go_simp; rfl)); intro gb114 hg w3 hbox hb; have BK114 := Zs.mk (hbox); have GW114 := zG (w := w) hg; have GE114 := zG (w := w) hg; replace HB := zBs hb; clear hb hbox hg))
 (try simp only [Act.put, List.setIfInBounds_toArray, List.set_cons_zero, List.set_cons_succ])
 go_cut [18] (fun v18 wc => ∃ (kq : Nat) (x18_1 : Bool), v18 = .bool x18_1 ∧ Zs (bank_Valid.j0 kq x18_1 a0_0 a0_1 l0_2 = some r) ∧ Zs (kq ≤ k) ∧ Zs (wc.heap[gb114]? = some (.cells #[.int .i64 a0_0, .int .i64 a0_1, (.slice A0_2 l0_2.length c0_2)] 27 (0, 0))) ∧ Zs (Below w.heap.size w wc))
 case first =>
  have H := HC2.out; clear HC2; obtain ⟨t115, A4, H⟩ := zb H; (try dsimp only [-Int.reduceToNat] at H)
  by_cases c5 : t115 = true
  ·
   subst c5
   rw [if_pos rfl] at H
   have H' := Zs.mk H; clear H; obtain ⟨hcz6_0, hcz6_1, hcz6_2⟩ := zC3 BK114; obtain ⟨hfz6_0, hfz6_1, hfz6_2⟩ := zZ3 BK114
   go_wp2_with (first | ((with_reducible refine gkc (f := 42) rfl ?_); refine zgo (some 11) Tryz.func42 #[.int .i64 a0_0, .int .i64 a0_1] ?_; (with_reducible refine (bank_dated.calls a0_0 a0_1 true _ A4.out).mono ?_); rintro e w' ⟨rfl, ⟨nd, rfl⟩⟩; refine ⟨_, rfl, ?_⟩))
   go_meet
   case rel => exact ⟨_, (decide ((l0_2.length : Int) > 1000)), zs, H', ⟨by first | omega | exact Nat.le_refl _⟩, ⟨zK BK114⟩, ⟨zB⟩⟩
  ·
   replace c5 := Bool.eq_false_iff.mpr c5; subst c5
   rw [if_neg (show ¬ (false = true) by decide)] at H
   have H' := Zs.mk H; clear H; obtain ⟨hcz7_0, hcz7_1, hcz7_2⟩ := zC3 BK114; obtain ⟨hfz7_0, hfz7_1, hfz7_2⟩ := zZ3 BK114
   go_wp2_with (first | ((with_reducible refine gkc (f := 42) rfl ?_); refine zgo (some 11) Tryz.func42 #[.int .i64 a0_0, .int .i64 a0_1] ?_; (with_reducible refine (bank_dated.calls a0_0 a0_1 false _ A4.out).mono ?_); rintro e w' ⟨rfl, ⟨nd, rfl⟩⟩; refine ⟨_, rfl, ?_⟩))
   go_meet
   case rel => exact ⟨_, (true), zs, H', ⟨by first | omega | exact Nat.le_refl _⟩, ⟨zK BK114⟩, ⟨zB⟩⟩
 case rest =>
  clear HC2
  obtain ⟨kq, x18_1, rfl, HA, HJ1, BK114, HB⟩ := hcut
  cases kq with
  | zero => exact absurd HA.out (by simp [bank_Valid.j0])
  | succ kj1 =>
   have H := HA.out; clear HA
   simp only [bank_Valid.j0] at H
   by_cases c8 : x18_1 = true
   ·
    subst c8
    rw [if_pos rfl] at H
    obtain rfl := Option.some.inj H
    go_wp2
    go_ret
    exact ⟨zE, zB⟩
   ·
    replace c8 := Bool.eq_false_iff.mpr c8; subst c8
    rw [if_neg (show ¬ (false = true) by decide)] at H
    have H' := Zs.mk H; clear H; obtain ⟨hcz9_0, hcz9_1, hcz9_2⟩ := zC3 BK114; obtain ⟨hfz9_0, hfz9_1, hfz9_2⟩ := zZ3 BK114
    go_wp2
    go_loopg [3, 4, 22] kj1 (fun kq v3 v4 v22 w' => ∃ (x3_2 : Int) (x4_2 : Int) (x22_2 : Int), v3 = .int .i64 x3_2 ∧ v4 = .int .i64 x4_2 ∧ v22 = .int .i64 x22_2 ∧ Zs (bank_Valid.l0 kq x3_2 x4_2 l0_2 (l0_2.length : Int) x22_2 = some r) ∧ Zs (kq ≤ kj1) ∧ Zs (w'.heap[gb114]? = some (.cells #[.int .i64 a0_0, .int .i64 a0_1, (.slice A0_2 l0_2.length c0_2)] 27 (0, 0))) ∧ Zs (Below w.heap.size w w'))
    case atStart => exact ⟨(0), (0), (0), zs, zs, zs, H', ⟨Nat.le_refl _⟩, ⟨zK BK114⟩, ⟨zB⟩⟩
    case round =>
     clear H'
     obtain ⟨x3_2, x4_2, x22_2, rfl, rfl, rfl, HA, HK2, BK114, HB⟩ := hrel
     cases gk with
     | zero => exact absurd HA.out (by simp [bank_Valid.l0])
     | succ k2 =>
      have H := HA.out; clear HA
      simp only [bank_Valid.l0] at H
      by_cases c10 : x22_2 < (l0_2.length : Int)
      ·
       rw [if_pos c10] at H
       have c10b0 := decide_eq_true c10; clear c10
       have c11 := zc H
       rw [if_pos c11] at H
       have c11b0 := decide_eq_true c11; clear c11
       have c12 := zc H
       rw [if_pos c12] at H
       have c12b0 := decide_eq_true c12; clear c12; obtain ⟨t118, A13, H⟩ := zb H; (try dsimp only [-Int.reduceToNat] at H)
       by_cases c14 : t118 = true
       ·
        subst c14
        rw [if_pos rfl] at H
        by_cases c15 : ((rTO l0_2 x22_2).f0) ≤ x3_2
        ·
         rw [if_pos c15] at H
         have c15b0 := decide_eq_true c15; clear c15; obtain rfl := Option.some.inj H; have p116 : 0 ≤ (x22_2 : Int) := zD; have q116 : x22_2 < (l0_2.length : Int) := zD; obtain ⟨ad116, e116, hx116_0, hx116_1, hx116_2, hx116_3, hx116_4⟩ := at_T47 HR0_2.out x22_2 p116 q116
         cases e116
         replace hx116_0 := zL HB hx116_0; replace hx116_1 := zL HB hx116_1; replace hx116_2 := zL HB hx116_2; replace hx116_3 := zL HB hx116_3; replace hx116_4 := zL HB hx116_4; replace p116 := eq_true p116; replace q116 := eq_true q116
         go_wp2_with (first | ((with_reducible refine gkd (N := 6) rfl ?_); (try (refine gate_guard (by rfl) ?_; dsimp only)); refine bxe ?hg (N := 6) ?hd (cs := #[.int .i64 0, .int .i64 0, .int .i64 0, .int .i64 0, .int .i64 0]) (t := 47) ?hr ?_; (case hd => rfl); (case hg => rfl); (case hr => first | (go_simp; done) | (go_simp; rfl)); intro gb117 hg w16 hbox hb; have BK117 := Zs.mk (hbox); have GW117 := zG (w := w) hg; have GE117 := zG (w := w) hg; replace HB := zBs hb; have NB114_117 := zN hg (zK BK114); have NB117_114 := zM hg (zK BK114); replace BK114 := zKb BK114 hb; clear hb hbox hg; have hnb17 := NB117_114.out; have hnc17 := NB114_117.out; obtain ⟨hcz18_0, hcz18_1, hcz18_2, hcz18_3, hcz18_4⟩ := zC5 BK117; obtain ⟨hfz18_0, hfz18_1, hfz18_2, hfz18_3, hfz18_4⟩ := zZ5 BK117) | ((with_reducible refine gkc (f := 43) rfl ?_); refine zgo (some 31) Tryz.func43 #[.agg #[.int .i64 ((rTO l0_2 x22_2).f0), .int .i64 ((rTO l0_2 x22_2).f1), .int .i64 ((rTO l0_2 x22_2).f2), .int .i64 ((rTO l0_2 x22_2).f3), .int .i64 ((rTO l0_2 x22_2).f4)]] ?_; (with_reducible refine (bank_right.calls ((rTO l0_2 x22_2).f0) ((rTO l0_2 x22_2).f1) ((rTO l0_2 x22_2).f2) ((rTO l0_2 x22_2).f3) ((rTO l0_2 x22_2).f4) true _ A13.out).mono ?_); rintro e w19 ⟨rfl, hb⟩; refine ⟨_, rfl, ?_⟩; replace BK114 := Zs.mk (blk_below (zF BK114) hb); replace BK117 := Zs.mk (blk_below (g := gb117) (o := .cells #[.int .i64 ((rTO l0_2 x22_2).f0), .int .i64 ((rTO l0_2 x22_2).f1), .int .i64 ((rTO l0_2 x22_2).f2), .int .i64 ((rTO l0_2 x22_2).f3), .int .i64 ((rTO l0_2 x22_2).f4)] 47 (0, 0)) (zY BK117) hb); replace HB := zBs hb; obtain ⟨hcz20_0, hcz20_1, hcz20_2, hcz20_3, hcz20_4⟩ := zC5 BK117; obtain ⟨hfz20_0, hfz20_1, hfz20_2, hfz20_3, hfz20_4⟩ := zZ5 BK117))
         go_ret
         exact ⟨zE, zB⟩
        ·
         rw [if_neg c15] at H
         have c15b0 := decide_eq_false c15; clear c15
         by_cases c21 : (wrap64 (x4_2 + ((rTO l0_2 x22_2).f4))) > 1099511627776
         ·
          rw [if_pos c21] at H
          have c21b0 := decide_eq_true c21; clear c21; obtain rfl := Option.some.inj H; have p116 : 0 ≤ (x22_2 : Int) := zD; have q116 : x22_2 < (l0_2.length : Int) := zD; obtain ⟨ad116, e116, hx116_0, hx116_1, hx116_2, hx116_3, hx116_4⟩ := at_T47 HR0_2.out x22_2 p116 q116
          cases e116
          replace hx116_0 := zL HB hx116_0; replace hx116_1 := zL HB hx116_1; replace hx116_2 := zL HB hx116_2; replace hx116_3 := zL HB hx116_3; replace hx116_4 := zL HB hx116_4; replace p116 := eq_true p116; replace q116 := eq_true q116
          go_wp2_with (first | ((with_reducible refine gkd (N := 6) rfl ?_); (try (refine gate_guard (by rfl) ?_; dsimp only)); refine bxe ?hg (N := 6) ?hd (cs := #[.int .i64 0, .int .i64 0, .int .i64 0, .int .i64 0, .int .i64 0]) (t := 47) ?hr ?_; (case hd => rfl); (case hg => rfl); (case hr => first | (go_simp; done) | (go_simp; rfl)); intro gb117 hg w22 hbox hb; have BK117 := Zs.mk (hbox); have GW117 := zG (w := w) hg; have GE117 := zG (w := w) hg; replace HB := zBs hb; have NB114_117 := zN hg (zK BK114); have NB117_114 := zM hg (zK BK114); replace BK114 := zKb BK114 hb; clear hb hbox hg; have hnb23 := NB117_114.out; have hnc23 := NB114_117.out; obtain ⟨hcz24_0, hcz24_1, hcz24_2, hcz24_3, hcz24_4⟩ := zC5 BK117; obtain ⟨hfz24_0, hfz24_1, hfz24_2, hfz24_3, hfz24_4⟩ := zZ5 BK117) | ((with_reducible refine gkc (f := 43) rfl ?_); refine zgo (some 31) Tryz.func43 #[.agg #[.int .i64 ((rTO l0_2 x22_2).f0), .int .i64 ((rTO l0_2 x22_2).f1), .int .i64 ((rTO l0_2 x22_2).f2), .int .i64 ((rTO l0_2 x22_2).f3), .int .i64 ((rTO l0_2 x22_2).f4)]] ?_; (with_reducible refine (bank_right.calls ((rTO l0_2 x22_2).f0) ((rTO l0_2 x22_2).f1) ((rTO l0_2 x22_2).f2) ((rTO l0_2 x22_2).f3) ((rTO l0_2 x22_2).f4) true _ A13.out).mono ?_); rintro e w25 ⟨rfl, hb⟩; refine ⟨_, rfl, ?_⟩; replace BK114 := Zs.mk (blk_below (zF BK114) hb); replace BK117 := Zs.mk (blk_below (g := gb117) (o := .cells #[.int .i64 ((rTO l0_2 x22_2).f0), .int .i64 ((rTO l0_2 x22_2).f1), .int .i64 ((rTO l0_2 x22_2).f2), .int .i64 ((rTO l0_2 x22_2).f3), .int .i64 ((rTO l0_2 x22_2).f4)] 47 (0, 0)) (zY BK117) hb); replace HB := zBs hb; obtain ⟨hcz26_0, hcz26_1, hcz26_2, hcz26_3, hcz26_4⟩ := zC5 BK117; obtain ⟨hfz26_0, hfz26_1, hfz26_2, hfz26_3, hfz26_4⟩ := zZ5 BK117))
          go_ret
          exact ⟨zE, zB⟩
         ·
          rw [if_neg c21] at H
          have c21b0 := decide_eq_false c21; clear c21; have H' := Zs.mk H; clear H; have p116 : 0 ≤ (x22_2 : Int) := zD; have q116 : x22_2 < (l0_2.length : Int) := zD; obtain ⟨ad116, e116, hx116_0, hx116_1, hx116_2, hx116_3, hx116_4⟩ := at_T47 HR0_2.out x22_2 p116 q116
          cases e116
          replace hx116_0 := zL HB hx116_0; replace hx116_1 := zL HB hx116_1; replace hx116_2 := zL HB hx116_2; replace hx116_3 := zL HB hx116_3; replace hx116_4 := zL HB hx116_4; replace p116 := eq_true p116; replace q116 := eq_true q116
          go_wp2_with (first | ((with_reducible refine gkd (N := 6) rfl ?_); (try (refine gate_guard (by rfl) ?_; dsimp only)); refine bxe ?hg (N := 6) ?hd (cs := #[.int .i64 0, .int .i64 0, .int .i64 0, .int .i64 0, .int .i64 0]) (t := 47) ?hr ?_; (case hd => rfl); (case hg => rfl); (case hr => first | (go_simp; done) | (go_simp; rfl)); intro gb117 hg w27 hbox hb; have BK117 := Zs.mk (hbox); have GW117 := zG (w := w) hg; have GE117 := zG (w := w) hg; replace HB := zBs hb; have NB114_117 := zN hg (zK BK114); have NB117_114 := zM hg (zK BK114); replace BK114 := zKb BK114 hb; clear hb hbox hg; have hnb28 := NB117_114.out; have hnc28 := NB114_117.out; obtain ⟨hcz29_0, hcz29_1, hcz29_2, hcz29_3, hcz29_4⟩ := zC5 BK117; obtain ⟨hfz29_0, hfz29_1, hfz29_2, hfz29_3, hfz29_4⟩ := zZ5 BK117) | ((with_reducible refine gkc (f := 43) rfl ?_); refine zgo (some 31) Tryz.func43 #[.agg #[.int .i64 ((rTO l0_2 x22_2).f0), .int .i64 ((rTO l0_2 x22_2).f1), .int .i64 ((rTO l0_2 x22_2).f2), .int .i64 ((rTO l0_2 x22_2).f3), .int .i64 ((rTO l0_2 x22_2).f4)]] ?_; (with_reducible refine (bank_right.calls ((rTO l0_2 x22_2).f0) ((rTO l0_2 x22_2).f1) ((rTO l0_2 x22_2).f2) ((rTO l0_2 x22_2).f3) ((rTO l0_2 x22_2).f4) true _ A13.out).mono ?_); rintro e w30 ⟨rfl, hb⟩; refine ⟨_, rfl, ?_⟩; replace BK114 := Zs.mk (blk_below (zF BK114) hb); replace BK117 := Zs.mk (blk_below (g := gb117) (o := .cells #[.int .i64 ((rTO l0_2 x22_2).f0), .int .i64 ((rTO l0_2 x22_2).f1), .int .i64 ((rTO l0_2 x22_2).f2), .int .i64 ((rTO l0_2 x22_2).f3), .int .i64 ((rTO l0_2 x22_2).f4)] 47 (0, 0)) (zY BK117) hb); replace HB := zBs hb; obtain ⟨hcz31_0, hcz31_1, hcz31_2, hcz31_3, hcz31_4⟩ := zC5 BK117; obtain ⟨hfz31_0, hfz31_1, hfz31_2, hfz31_3, hfz31_4⟩ := zZ5 BK117))
          go_roundg k2
          case measure => have := HJ1.out; have := HK2.out; omega
          case rel => exact ⟨((rTO l0_2 x22_2).f0), (wrap64 (x4_2 + ((rTO l0_2 x22_2).f4))), (wrap64 (x22_2 + 1)), zs, zs, zs, H', ⟨by have := HJ1.out; have := HK2.out; omega⟩, ⟨zK BK114⟩, ⟨zB⟩⟩
       ·
        replace c14 := Bool.eq_false_iff.mpr c14; subst c14
        rw [if_neg (show ¬ (false = true) by decide)] at H
        obtain rfl := Option.some.inj H; have p116 : 0 ≤ (x22_2 : Int) := zD; have q116 : x22_2 < (l0_2.length : Int) := zD; obtain ⟨ad116, e116, hx116_0, hx116_1, hx116_2, hx116_3, hx116_4⟩ := at_T47 HR0_2.out x22_2 p116 q116
        cases e116
        replace hx116_0 := zL HB hx116_0; replace hx116_1 := zL HB hx116_1; replace hx116_2 := zL HB hx116_2; replace hx116_3 := zL HB hx116_3; replace hx116_4 := zL HB hx116_4; replace p116 := eq_true p116; replace q116 := eq_true q116
        go_wp2_with (first | ((with_reducible refine gkd (N := 6) rfl ?_); (try (refine gate_guard (by rfl) ?_; dsimp only)); refine bxe ?hg (N := 6) ?hd (cs := #[.int .i64 0, .int .i64 0, .int .i64 0, .int .i64 0, .int .i64 0]) (t := 47) ?hr ?_; (case hd => rfl); (case hg => rfl); (case hr => first | (go_simp; done) | (go_simp; rfl)); intro gb117 hg w32 hbox hb; have BK117 := Zs.mk (hbox); have GW117 := zG (w := w) hg; have GE117 := zG (w := w) hg; replace HB := zBs hb; have NB114_117 := zN hg (zK BK114); have NB117_114 := zM hg (zK BK114); replace BK114 := zKb BK114 hb; clear hb hbox hg; have hnb33 := NB117_114.out; have hnc33 := NB114_117.out; obtain ⟨hcz34_0, hcz34_1, hcz34_2, hcz34_3, hcz34_4⟩ := zC5 BK117; obtain ⟨hfz34_0, hfz34_1, hfz34_2, hfz34_3, hfz34_4⟩ := zZ5 BK117) | ((with_reducible refine gkc (f := 43) rfl ?_); refine zgo (some 31) Tryz.func43 #[.agg #[.int .i64 ((rTO l0_2 x22_2).f0), .int .i64 ((rTO l0_2 x22_2).f1), .int .i64 ((rTO l0_2 x22_2).f2), .int .i64 ((rTO l0_2 x22_2).f3), .int .i64 ((rTO l0_2 x22_2).f4)]] ?_; (with_reducible refine (bank_right.calls ((rTO l0_2 x22_2).f0) ((rTO l0_2 x22_2).f1) ((rTO l0_2 x22_2).f2) ((rTO l0_2 x22_2).f3) ((rTO l0_2 x22_2).f4) false _ A13.out).mono ?_); rintro e w35 ⟨rfl, hb⟩; refine ⟨_, rfl, ?_⟩; replace BK114 := Zs.mk (blk_below (zF BK114) hb); replace BK117 := Zs.mk (blk_below (g := gb117) (o := .cells #[.int .i64 ((rTO l0_2 x22_2).f0), .int .i64 ((rTO l0_2 x22_2).f1), .int .i64 ((rTO l0_2 x22_2).f2), .int .i64 ((rTO l0_2 x22_2).f3), .int .i64 ((rTO l0_2 x22_2).f4)] 47 (0, 0)) (zY BK117) hb); replace HB := zBs hb))
        go_ret
        exact ⟨zE, zB⟩
      ·
       rw [if_neg c10] at H
       have c10b0 := decide_eq_false c10; clear c10; obtain rfl := Option.some.inj H
       go_wp2
       go_ret
       exact ⟨zE, zB⟩
end
section
def bank_Right.l0 : Nat → Int → List (S49) → Int → Int → Int → Int → List (S49) → Option (Bool)
 | 0, _, _, _, _, _, _, _ => none
 | k + 1, x3, x7, x8, x9, x131000, x131001, x131002 => if x9 < x8 then (if 0 ≤ x9 then (if x9 < (x7.length : Int) then (if ((rTR x7 x9).f0) ≤ x3 then (some false) else ((bank_counts.f ((rTR x7 x9).f0)).bind fun t133 => (if t133 = true then (if ((rTR x7 x9).f1) < 1 then (some false) else (if ((rTR x7 x9).f1) > 9 then (some false) else (bank_Right.l0 k ((rTR x7 x9).f0) x7 x8 (wrap64 (x9 + 1)) x131000 x131001 x131002))) else (some false)))) else (none)) else (none)) else ((bank_dated.f x131000 x131001).bind fun t134 => (if t134 = true then (some (decide ((x131002.length : Int) ≤ 1000))) else (some false)))
def bank_Right.f (k : Nat) (a0_0 : Int) (a0_1 : Int) (l0_2 : List (S49)) : Option (Bool) := bank_Right.l0 k 0 l0_2 (l0_2.length : Int) 0 a0_0 a0_1 l0_2
set_option maxHeartbeats 8000000 in
set_option maxRecDepth 100000 in
theorem bank_Right.calls (k : Nat) (a0_0 : Int) (a0_1 : Int) (A0_2 : Option Addr) (c0_2 : Nat) (l0_2 : List (S49)) (r : Bool) (w : World) (hr0_2 : Kd.C k49 w A0_2 l0_2.length l0_2) (hc0_2 : l0_2.length ≤ c0_2) (h : bank_Right.f k a0_0 a0_1 l0_2 = some r) :
  Calls Tryz.prog 28 #[.agg #[.int .i64 a0_0, .int .i64 a0_1, .slice A0_2 l0_2.length c0_2]] w fun e w' => e = .returned (.bool r) ∧ Below w.heap.size w w' := by
 have hu30 := Tryz.underlying30; have hu49 := Tryz.underlying49; have HR0_2 := Zs.mk hr0_2; have HC0_2 := Zs.mk hc0_2; clear hr0_2 hc0_2; have HB := Zs.mk (Below.refl w.heap.size w); have H : (bank_Right.l0 k 0 l0_2 (l0_2.length : Int) 0 a0_0 a0_1 l0_2) = some r := h; clear h; have H' := Zs.mk H; clear H
 go_enter Tryz.func28, Tryz.ntmps28
 go_wp2_with (first | ((with_reducible refine gkd (N := 1) rfl ?_); (try (refine gate_guard (by rfl) ?_; dsimp only)); refine bxe ?hg (N := 1) ?hd (cs := #[.int .i64 a0_0, .int .i64 a0_1, .slice A0_2 l0_2.length c0_2]) (t := 30) ?hr ?_; (case hd => rfl); (case hg => rfl); (case hr => first | (go_simp; done) | (go_simp; rfl)); intro gb130 hg w2 hbox hb; have BK130 := Zs.mk (hbox); have GW130 := zG (w := w) hg; have GE130 := zG (w := w) hg; replace HB := zBs hb; clear hb hbox hg; obtain ⟨hcz3_0, hcz3_1, hcz3_2⟩ := zC3 BK130; obtain ⟨hfz3_0, hfz3_1, hfz3_2⟩ := zZ3 BK130))
 go_loopg [3, 9] k (fun kq v3 v9 w' => ∃ (x3_1 : Int) (x9_1 : Int), v3 = .int .i64 x3_1 ∧ v9 = .int .i64 x9_1 ∧ Zs (bank_Right.l0 kq x3_1 l0_2 (l0_2.length : Int) x9_1 a0_0 a0_1 l0_2 = some r) ∧ Zs (kq ≤ k) ∧ Zs (w'.heap[gb130]? = some (.cells #[.int .i64 a0_0, .int .i64 a0_1, (.slice A0_2 l0_2.length c0_2)] 30 (0, 0))) ∧ Zs (Below w.heap.size w w'))
 case atStart => exact ⟨(0), (0), zs, zs, H', ⟨Nat.le_refl _⟩, ⟨zK BK130⟩, ⟨zB⟩⟩
 case round =>
  clear H'
  obtain ⟨x3_1, x9_1, rfl, rfl, HA, HK1, BK130, HB⟩ := hrel
  cases gk with
  | zero => exact absurd HA.out (by simp [bank_Right.l0])
  | succ k1 =>
   have H := HA.out; clear HA
   simp only [bank_Right.l0] at H
   by_cases c4 : x9_1 < (l0_2.length : Int)
   ·
    rw [if_pos c4] at H
    have c4b0 := decide_eq_true c4; clear c4
    have c5 := zc H
    rw [if_pos c5] at H
    have c5b0 := decide_eq_true c5; clear c5
    have c6 := zc H
    rw [if_pos c6] at H
    have c6b0 := decide_eq_true c6; clear c6
    by_cases c7 : ((rTR l0_2 x9_1).f0) ≤ x3_1
    ·
     rw [if_pos c7] at H
     have c7b0 := decide_eq_true c7; clear c7; obtain rfl := Option.some.inj H; have p131 : 0 ≤ (x9_1 : Int) := zD; have q131 : x9_1 < (l0_2.length : Int) := zD; obtain ⟨ad131, e131, hx131_0, hx131_1⟩ := at_T49 HR0_2.out x9_1 p131 q131
     cases e131
     replace hx131_0 := zL HB hx131_0; replace hx131_1 := zL HB hx131_1; replace p131 := eq_true p131; replace q131 := eq_true q131
     go_wp2_with (first | ((with_reducible refine gkd (N := 5) rfl ?_); (try (refine gate_guard (by rfl) ?_; dsimp only)); refine bxe ?hg (N := 5) ?hd (cs := #[.int .i64 0, .int .i64 0]) (t := 49) ?hr ?_; (case hd => rfl); (case hg => rfl); (case hr => first | (go_simp; done) | (go_simp; rfl)); intro gb132 hg w8 hbox hb; have BK132 := Zs.mk (hbox); have GW132 := zG (w := w) hg; have GE132 := zG (w := w) hg; replace HB := zBs hb; have NB130_132 := zN hg (zK BK130); have NB132_130 := zM hg (zK BK130); replace BK130 := zKb BK130 hb; clear hb hbox hg; have hnb9 := NB132_130.out; have hnc9 := NB130_132.out; obtain ⟨hcz10_0, hcz10_1⟩ := zC2 BK132; obtain ⟨hfz10_0, hfz10_1⟩ := zZ2 BK132))
     go_ret
     exact ⟨zE, zB⟩
    ·
     rw [if_neg c7] at H
     have c7b0 := decide_eq_false c7; clear c7; obtain ⟨t133, A11, H⟩ := zb H; (try dsimp only [-Int.reduceToNat] at H)
     by_cases c12 : t133 = true
     ·
      subst c12
      rw [if_pos rfl] at H
      by_cases c13 : ((rTR l0_2 x9_1).f1) < 1
      ·
       rw [if_pos c13] at H
       have c13b0 := decide_eq_true c13; clear c13; obtain rfl := Option.some.inj H; have p131 : 0 ≤ (x9_1 : Int) := zD; have q131 : x9_1 < (l0_2.length : Int) := zD; obtain ⟨ad131, e131, hx131_0, hx131_1⟩ := at_T49 HR0_2.out x9_1 p131 q131
       cases e131
       replace hx131_0 := zL HB hx131_0; replace hx131_1 := zL HB hx131_1; replace p131 := eq_true p131; replace q131 := eq_true q131
       go_wp2_with (first | ((with_reducible refine gkd (N := 5) rfl ?_); (try (refine gate_guard (by rfl) ?_; dsimp only)); refine bxe ?hg (N := 5) ?hd (cs := #[.int .i64 0, .int .i64 0]) (t := 49) ?hr ?_; (case hd => rfl); (case hg => rfl); (case hr => first | (go_simp; done) | (go_simp; rfl)); intro gb132 hg w14 hbox hb; have BK132 := Zs.mk (hbox); have GW132 := zG (w := w) hg; have GE132 := zG (w := w) hg; replace HB := zBs hb; have NB130_132 := zN hg (zK BK130); have NB132_130 := zM hg (zK BK130); replace BK130 := zKb BK130 hb; clear hb hbox hg; have hnb15 := NB132_130.out; have hnc15 := NB130_132.out; obtain ⟨hcz16_0, hcz16_1⟩ := zC2 BK132; obtain ⟨hfz16_0, hfz16_1⟩ := zZ2 BK132) | (go_at_call 53; (with_reducible refine (bank_counts.calls ((rTR l0_2 x9_1).f0) true _ A11.out).mono ?_); rintro e w' ⟨rfl, ⟨nd, rfl⟩⟩))
       go_ret
       exact ⟨zE, zB⟩
      ·
       rw [if_neg c13] at H
       have c13b0 := decide_eq_false c13; clear c13
       by_cases c17 : ((rTR l0_2 x9_1).f1) > 9
       ·
        rw [if_pos c17] at H
        have c17b0 := decide_eq_true c17; clear c17; obtain rfl := Option.some.inj H; have p131 : 0 ≤ (x9_1 : Int) := zD; have q131 : x9_1 < (l0_2.length : Int) := zD; obtain ⟨ad131, e131, hx131_0, hx131_1⟩ := at_T49 HR0_2.out x9_1 p131 q131
        cases e131
        replace hx131_0 := zL HB hx131_0; replace hx131_1 := zL HB hx131_1; replace p131 := eq_true p131; replace q131 := eq_true q131
        go_wp2_with (first | ((with_reducible refine gkd (N := 5) rfl ?_); (try (refine gate_guard (by rfl) ?_; dsimp only)); refine bxe ?hg (N := 5) ?hd (cs := #[.int .i64 0, .int .i64 0]) (t := 49) ?hr ?_; (case hd => rfl); (case hg => rfl); (case hr => first | (go_simp; done) | (go_simp; rfl)); intro gb132 hg w18 hbox hb; have BK132 := Zs.mk (hbox); have GW132 := zG (w := w) hg; have GE132 := zG (w := w) hg; replace HB := zBs hb; have NB130_132 := zN hg (zK BK130); have NB132_130 := zM hg (zK BK130); replace BK130 := zKb BK130 hb; clear hb hbox hg; have hnb19 := NB132_130.out; have hnc19 := NB130_132.out; obtain ⟨hcz20_0, hcz20_1⟩ := zC2 BK132; obtain ⟨hfz20_0, hfz20_1⟩ := zZ2 BK132) | (go_at_call 53; (with_reducible refine (bank_counts.calls ((rTR l0_2 x9_1).f0) true _ A11.out).mono ?_); rintro e w' ⟨rfl, ⟨nd, rfl⟩⟩))
        go_ret
        exact ⟨zE, zB⟩
       ·
        rw [if_neg c17] at H
        have c17b0 := decide_eq_false c17; clear c17; have H' := Zs.mk H; clear H; have p131 : 0 ≤ (x9_1 : Int) := zD; have q131 : x9_1 < (l0_2.length : Int) := zD; obtain ⟨ad131, e131, hx131_0, hx131_1⟩ := at_T49 HR0_2.out x9_1 p131 q131
        cases e131
        replace hx131_0 := zL HB hx131_0; replace hx131_1 := zL HB hx131_1; replace p131 := eq_true p131; replace q131 := eq_true q131
        go_wp2_with (first | ((with_reducible refine gkd (N := 5) rfl ?_); (try (refine gate_guard (by rfl) ?_; dsimp only)); refine bxe ?hg (N := 5) ?hd (cs := #[.int .i64 0, .int .i64 0]) (t := 49) ?hr ?_; (case hd => rfl); (case hg => rfl); (case hr => first | (go_simp; done) | (go_simp; rfl)); intro gb132 hg w21 hbox hb; have BK132 := Zs.mk (hbox); have GW132 := zG (w := w) hg; have GE132 := zG (w := w) hg; replace HB := zBs hb; have NB130_132 := zN hg (zK BK130); have NB132_130 := zM hg (zK BK130); replace BK130 := zKb BK130 hb; clear hb hbox hg; have hnb22 := NB132_130.out; have hnc22 := NB130_132.out; obtain ⟨hcz23_0, hcz23_1⟩ := zC2 BK132; obtain ⟨hfz23_0, hfz23_1⟩ := zZ2 BK132) | (go_at_call 53; (with_reducible refine (bank_counts.calls ((rTR l0_2 x9_1).f0) true _ A11.out).mono ?_); rintro e w' ⟨rfl, ⟨nd, rfl⟩⟩))
        go_roundg k1
        case measure => have := HK1.out; omega
        case rel => exact ⟨((rTR l0_2 x9_1).f0), (wrap64 (x9_1 + 1)), zs, zs, H', ⟨by have := HK1.out; omega⟩, ⟨zF BK130⟩, ⟨zB⟩⟩
     ·
      replace c12 := Bool.eq_false_iff.mpr c12; subst c12
      rw [if_neg (show ¬ (false = true) by decide)] at H
      obtain rfl := Option.some.inj H; have p131 : 0 ≤ (x9_1 : Int) := zD; have q131 : x9_1 < (l0_2.length : Int) := zD; obtain ⟨ad131, e131, hx131_0, hx131_1⟩ := at_T49 HR0_2.out x9_1 p131 q131
      cases e131
      replace hx131_0 := zL HB hx131_0; replace hx131_1 := zL HB hx131_1; replace p131 := eq_true p131; replace q131 := eq_true q131
      go_wp2_with (first | ((with_reducible refine gkd (N := 5) rfl ?_); (try (refine gate_guard (by rfl) ?_; dsimp only)); refine bxe ?hg (N := 5) ?hd (cs := #[.int .i64 0, .int .i64 0]) (t := 49) ?hr ?_; (case hd => rfl); (case hg => rfl); (case hr => first | (go_simp; done) | (go_simp; rfl)); intro gb132 hg w24 hbox hb; have BK132 := Zs.mk (hbox); have GW132 := zG (w := w) hg; have GE132 := zG (w := w) hg; replace HB := zBs hb; have NB130_132 := zN hg (zK BK130); have NB132_130 := zM hg (zK BK130); replace BK130 := zKb BK130 hb; clear hb hbox hg; have hnb25 := NB132_130.out; have hnc25 := NB130_132.out; obtain ⟨hcz26_0, hcz26_1⟩ := zC2 BK132; obtain ⟨hfz26_0, hfz26_1⟩ := zZ2 BK132) | (go_at_call 53; (with_reducible refine (bank_counts.calls ((rTR l0_2 x9_1).f0) false _ A11.out).mono ?_); rintro e w' ⟨rfl, ⟨nd, rfl⟩⟩))
      go_ret
      exact ⟨zE, zB⟩
   ·
    rw [if_neg c4] at H
    have c4b0 := decide_eq_false c4; clear c4; obtain ⟨t134, A27, H⟩ := zb H; (try dsimp only [-Int.reduceToNat] at H)
    by_cases c28 : t134 = true
    ·
     subst c28
     rw [if_pos rfl] at H
     obtain rfl := Option.some.inj H; obtain ⟨hcz29_0, hcz29_1, hcz29_2⟩ := zC3 BK130; obtain ⟨hfz29_0, hfz29_1, hfz29_2⟩ := zZ3 BK130
     go_wp2_with (first | ((with_reducible refine gkc (f := 42) rfl ?_); refine zgo (some 40) Tryz.func42 #[.int .i64 a0_0, .int .i64 a0_1] ?_; (with_reducible refine (bank_dated.calls a0_0 a0_1 true _ A27.out).mono ?_); rintro e w' ⟨rfl, ⟨nd, rfl⟩⟩; refine ⟨_, rfl, ?_⟩))
     go_ret
     exact ⟨zE, zB⟩
    ·
     replace c28 := Bool.eq_false_iff.mpr c28; subst c28
     rw [if_neg (show ¬ (false = true) by decide)] at H
     obtain rfl := Option.some.inj H; obtain ⟨hcz30_0, hcz30_1, hcz30_2⟩ := zC3 BK130; obtain ⟨hfz30_0, hfz30_1, hfz30_2⟩ := zZ3 BK130
     go_wp2_with (first | ((with_reducible refine gkc (f := 42) rfl ?_); refine zgo (some 40) Tryz.func42 #[.int .i64 a0_0, .int .i64 a0_1] ?_; (with_reducible refine (bank_dated.calls a0_0 a0_1 false _ A27.out).mono ?_); rintro e w' ⟨rfl, ⟨nd, rfl⟩⟩; refine ⟨_, rfl, ?_⟩))
     go_ret
     exact ⟨zE, zB⟩
end
section
mutual
def aR_Valid.j0 : Nat → Bool → Int → Int → List (S47) → Option (Bool)
 | 0, _, _, _, _ => none
 | k + 1, x29, x224000, x224001, x224002 => if x29 = true then (some false) else (aR_Valid.l0 k 0 0 x224000 x224001 x224002)
def aR_Valid.l0 : Nat → Int → Int → Int → Int → List (S47) → Option (Bool)
 | 0, _, _, _, _, _ => none
 | k + 1, x3, x4, x224000, x224001, x224002 => if x4 < (x224002.length : Int) then (if 0 ≤ x4 then (if ((rTO x224002 x4).f0) < 1 then (aR_Valid.j2 k x3 x4 true x224000 x224001 x224002 ((rTO x224002 x4).f0) ((rTO x224002 x4).f1) ((rTO x224002 x4).f2) ((rTO x224002 x4).f3) ((rTO x224002 x4).f4)) else (if ((rTO x224002 x4).f0) > 1099511627776 then (aR_Valid.j2 k x3 x4 true x224000 x224001 x224002 ((rTO x224002 x4).f0) ((rTO x224002 x4).f1) ((rTO x224002 x4).f2) ((rTO x224002 x4).f3) ((rTO x224002 x4).f4)) else (if ((rTO x224002 x4).f1) < 1 then (aR_Valid.j2 k x3 x4 true x224000 x224001 x224002 ((rTO x224002 x4).f0) ((rTO x224002 x4).f1) ((rTO x224002 x4).f2) ((rTO x224002 x4).f3) ((rTO x224002 x4).f4)) else (if ((rTO x224002 x4).f1) > 1099511627776 then (aR_Valid.j2 k x3 x4 true x224000 x224001 x224002 ((rTO x224002 x4).f0) ((rTO x224002 x4).f1) ((rTO x224002 x4).f2) ((rTO x224002 x4).f3) ((rTO x224002 x4).f4)) else (if ((rTO x224002 x4).f2) < 0 then (aR_Valid.j2 k x3 x4 true x224000 x224001 x224002 ((rTO x224002 x4).f0) ((rTO x224002 x4).f1) ((rTO x224002 x4).f2) ((rTO x224002 x4).f3) ((rTO x224002 x4).f4)) else (if ((rTO x224002 x4).f2) > 1099511627776 then (aR_Valid.j2 k x3 x4 true x224000 x224001 x224002 ((rTO x224002 x4).f0) ((rTO x224002 x4).f1) ((rTO x224002 x4).f2) ((rTO x224002 x4).f3) ((rTO x224002 x4).f4)) else (if ((rTO x224002 x4).f3) < (-1099511627776) then (aR_Valid.j2 k x3 x4 true x224000 x224001 x224002 ((rTO x224002 x4).f0) ((rTO x224002 x4).f1) ((rTO x224002 x4).f2) ((rTO x224002 x4).f3) ((rTO x224002 x4).f4)) else (if ((rTO x224002 x4).f3) > ((rTO x224002 x4).f2) then (aR_Valid.j2 k x3 x4 true x224000 x224001 x224002 ((rTO x224002 x4).f0) ((rTO x224002 x4).f1) ((rTO x224002 x4).f2) ((rTO x224002 x4).f3) ((rTO x224002 x4).f4)) else (if ((rTO x224002 x4).f4) = (wrap64 (((rTO x224002 x4).f2) - ((rTO x224002 x4).f3))) then (aR_Valid.j2 k x3 x4 (decide (((rTO x224002 x4).f4) > 1099511627776)) x224000 x224001 x224002 ((rTO x224002 x4).f0) ((rTO x224002 x4).f1) ((rTO x224002 x4).f2) ((rTO x224002 x4).f3) ((rTO x224002 x4).f4)) else (aR_Valid.j2 k x3 x4 true x224000 x224001 x224002 ((rTO x224002 x4).f0) ((rTO x224002 x4).f1) ((rTO x224002 x4).f2) ((rTO x224002 x4).f3) ((rTO x224002 x4).f4))))))))))) else (none)) else (some true)
def aR_Valid.j2 : Nat → Int → Int → Bool → Int → Int → List (S47) → Int → Int → Int → Int → Int → Option (Bool)
 | 0, _, _, _, _, _, _, _, _, _, _, _ => none
 | k + 1, x3, x4, x96, x224000, x224001, x224002, x226000, x226001, x226002, x226003, x226004 => if x96 = true then (some false) else (if (wrap64 (x3 + x226004)) > 1099511627776 then (some false) else (if x4 > 0 then (if 0 ≤ (wrap64 (x4 - 1)) then (if (wrap64 (x4 - 1)) < (x224002.length : Int) then (if x226000 ≤ ((rTO x224002 (wrap64 (x4 - 1))).f0) then (some false) else (aR_Valid.l0 k (wrap64 (x3 + x226004)) (wrap64 (x4 + 1)) x224000 x224001 x224002)) else (none)) else (none)) else (aR_Valid.l0 k (wrap64 (x3 + x226004)) (wrap64 (x4 + 1)) x224000 x224001 x224002)))
end
def aR_Valid.f (k : Nat) (a0_0 : Int) (a0_1 : Int) (l0_2 : List (S47)) : Option (Bool) := if a0_0 < 1 then (aR_Valid.j0 k true a0_0 a0_1 l0_2) else (if a0_0 > 1099511627776 then (aR_Valid.j0 k true a0_0 a0_1 l0_2) else (if a0_1 < 0 then (aR_Valid.j0 k true a0_0 a0_1 l0_2) else (if a0_1 ≥ 65536 then (aR_Valid.j0 k true a0_0 a0_1 l0_2) else (aR_Valid.j0 k (decide ((l0_2.length : Int) > 1000)) a0_0 a0_1 l0_2))))
set_option maxHeartbeats 8000000 in
set_option maxRecDepth 100000 in
theorem aR_Valid.calls (k : Nat) (a0_0 : Int) (a0_1 : Int) (A0_2 : Option Addr) (c0_2 : Nat) (l0_2 : List (S47)) (r : Bool) (w : World) (hr0_2 : Kd.C k47 w A0_2 l0_2.length l0_2) (hc0_2 : l0_2.length ≤ c0_2) (h : aR_Valid.f k a0_0 a0_1 l0_2 = some r) :
  Calls Tryz.prog 35 #[.agg #[.int .i64 a0_0, .int .i64 a0_1, .slice A0_2 l0_2.length c0_2]] w fun e w' => e = .returned (.bool r) ∧ Below w.heap.size w w' := by
 have hu36 := Tryz.underlying36; have hu47 := Tryz.underlying47; have HR0_2 := Zs.mk hr0_2; have HC0_2 := Zs.mk hc0_2; clear hr0_2 hc0_2; have HB := Zs.mk (Below.refl w.heap.size w); have H : (if a0_0 < 1 then (aR_Valid.j0 k true a0_0 a0_1 l0_2) else (if a0_0 > 1099511627776 then (aR_Valid.j0 k true a0_0 a0_1 l0_2) else (if a0_1 < 0 then (aR_Valid.j0 k true a0_0 a0_1 l0_2) else (if a0_1 ≥ 65536 then (aR_Valid.j0 k true a0_0 a0_1 l0_2) else (aR_Valid.j0 k (decide ((l0_2.length : Int) > 1000)) a0_0 a0_1 l0_2))))) = some r := h; clear h; have HC2 := Zs.mk H; clear H
 go_enter Tryz.func35, Tryz.ntmps35
 go_upto_region 1 with (first | ((with_reducible refine gkd (N := 1) rfl ?_); (try (refine gate_guard (by rfl) ?_; dsimp only)); refine bxe ?hg (N := 1) ?hd (cs := #[.int .i64 a0_0, .int .i64 a0_1, .slice A0_2 l0_2.length c0_2]) (t := 36) ?hr ?_; (case hd => rfl); (case hg => rfl); (case hr => first | (go_simp; done) | (go_simp; rfl)); intro gb223 hg w3 hbox hb; have BK223 := Zs.mk (hbox); have GW223 := zG (w := w) hg; have GE223 := zG (w := w) hg; replace HB := zBs hb; clear hb hbox hg))
 repeat (go_quiet (skip); try go_wp2)
 (try simp only [Act.put, List.setIfInBounds_toArray, List.set_cons_zero, List.set_cons_succ])
 go_cut [29] (fun v29 wc => ∃ (kq : Nat) (x29_1 : Bool), v29 = .bool x29_1 ∧ Zs (aR_Valid.j0 kq x29_1 a0_0 a0_1 l0_2 = some r) ∧ Zs (kq ≤ k) ∧ Zs (wc.heap[gb223]? = some (.cells #[.int .i64 a0_0, .int .i64 a0_1, (.slice A0_2 l0_2.length c0_2)] 36 (0, 0))) ∧ Zs (Below w.heap.size w wc))
 case first =>
  have H := HC2.out; clear HC2
  by_cases c4 : a0_0 < 1
  ·
   rw [if_pos c4] at H
   have c4b0 := decide_eq_true c4; clear c4
   (first | rw [c4b0] | (simp only [i64_w, i32_w]; rw [c4b0]) | skip)
   have H' := Zs.mk H; clear H; obtain ⟨hcz5_0, hcz5_1, hcz5_2⟩ := zC3 BK223; obtain ⟨hfz5_0, hfz5_1, hfz5_2⟩ := zZ3 BK223
   go_wp2
   repeat (go_quiet (skip); try go_wp2)
   go_meet
   case rel => exact ⟨_, (true), zs, H', ⟨by first | omega | exact Nat.le_refl _⟩, ⟨zK BK223⟩, ⟨zB⟩⟩
  ·
   rw [if_neg c4] at H
   have c4b0 := decide_eq_false c4; clear c4
   (first | rw [c4b0] | (simp only [i64_w, i32_w]; rw [c4b0]) | skip)
   by_cases c6 : a0_0 > 1099511627776
   ·
    rw [if_pos c6] at H
    have c6b0 := decide_eq_true c6; clear c6; have H' := Zs.mk H; clear H; obtain ⟨hcz7_0, hcz7_1, hcz7_2⟩ := zC3 BK223; obtain ⟨hfz7_0, hfz7_1, hfz7_2⟩ := zZ3 BK223
    go_wp2
    repeat (go_quiet (skip); try go_wp2)
    go_meet
    case rel => exact ⟨_, (true), zs, H', ⟨by first | omega | exact Nat.le_refl _⟩, ⟨zK BK223⟩, ⟨zB⟩⟩
   ·
    rw [if_neg c6] at H
    have c6b0 := decide_eq_false c6; clear c6
    by_cases c8 : a0_1 < 0
    ·
     rw [if_pos c8] at H
     have c8b0 := decide_eq_true c8; clear c8; have H' := Zs.mk H; clear H; obtain ⟨hcz9_0, hcz9_1, hcz9_2⟩ := zC3 BK223; obtain ⟨hfz9_0, hfz9_1, hfz9_2⟩ := zZ3 BK223
     go_wp2
     repeat (go_quiet (skip); try go_wp2)
     go_meet
     case rel => exact ⟨_, (true), zs, H', ⟨by first | omega | exact Nat.le_refl _⟩, ⟨zK BK223⟩, ⟨zB⟩⟩
    ·
     rw [if_neg c8] at H
     have c8b0 := decide_eq_false c8; clear c8
     by_cases c10 : a0_1 ≥ 65536
     ·
      rw [if_pos c10] at H
      have c10b0 := decide_eq_true c10; clear c10; have H' := Zs.mk H; clear H; obtain ⟨hcz11_0, hcz11_1, hcz11_2⟩ := zC3 BK223; obtain ⟨hfz11_0, hfz11_1, hfz11_2⟩ := zZ3 BK223
      go_wp2
      repeat (go_quiet (skip); try go_wp2)
      go_meet
      case rel => exact ⟨_, (true), zs, H', ⟨by first | omega | exact Nat.le_refl _⟩, ⟨zK BK223⟩, ⟨zB⟩⟩
     ·
      rw [if_neg c10] at H
      have c10b0 := decide_eq_false c10; clear c10; have H' := Zs.mk H; clear H; obtain ⟨hcz12_0, hcz12_1, hcz12_2⟩ := zC3 BK223; obtain ⟨hfz12_0, hfz12_1, hfz12_2⟩ := zZ3 BK223
      go_wp2
      repeat (go_quiet (skip); try go_wp2)
      go_meet
      case rel => exact ⟨_, (decide ((l0_2.length : Int) > 1000)), zs, H', ⟨by first | omega | exact Nat.le_refl _⟩, ⟨zK BK223⟩, ⟨zB⟩⟩
 case rest =>
  clear HC2
  obtain ⟨kq, x29_1, rfl, HA, HJ1, BK223, HB⟩ := hcut
  cases kq with
  | zero => exact absurd HA.out (by simp [aR_Valid.j0])
  | succ kj1 =>
   have H := HA.out; clear HA
   simp only [aR_Valid.j0] at H
   by_cases c13 : x29_1 = true
   ·
    subst c13
    rw [if_pos rfl] at H
    obtain rfl := Option.some.inj H
    go_wp2
    repeat (go_quiet (skip); try go_wp2)
    go_ret
    exact ⟨zE, zB⟩
   ·
    replace c13 := Bool.eq_false_iff.mpr c13; subst c13
    rw [if_neg (show ¬ (false = true) by decide)] at H
    have H' := Zs.mk H; clear H
    go_wp2
    repeat (go_quiet (skip); try go_wp2)
    go_loopg [3, 4] kj1 (fun kq v3 v4 w' => ∃ (x3_2 : Int) (x4_2 : Int), v3 = .int .i64 x3_2 ∧ v4 = .int .i64 x4_2 ∧ Zs (aR_Valid.l0 kq x3_2 x4_2 a0_0 a0_1 l0_2 = some r) ∧ Zs (kq ≤ kj1) ∧ Zs (w'.heap[gb223]? = some (.cells #[.int .i64 a0_0, .int .i64 a0_1, (.slice A0_2 l0_2.length c0_2)] 36 (0, 0))) ∧ Zs (Below w.heap.size w w'))
    case atStart => exact ⟨(0), (0), zs, zs, H', ⟨Nat.le_refl _⟩, ⟨zK BK223⟩, ⟨zB⟩⟩
    case round =>
     clear H'
     obtain ⟨x3_2, x4_2, rfl, rfl, HA, HK2, BK223, HB⟩ := hrel
     cases gk with
     | zero => exact absurd HA.out (by simp [aR_Valid.l0])
     | succ k2 =>
      have H := HA.out; clear HA
      simp only [aR_Valid.l0] at H
      by_cases c14 : x4_2 < (l0_2.length : Int)
      ·
       rw [if_pos c14] at H
       have c14b0 := decide_eq_true c14; clear c14
       have c15 := zc H
       rw [if_pos c15] at H
       have c15b0 := decide_eq_true c15; clear c15; have HC16 := Zs.mk H; clear H; obtain ⟨hcz17_0, hcz17_1, hcz17_2⟩ := zC3 BK223; obtain ⟨hfz17_0, hfz17_1, hfz17_2⟩ := zZ3 BK223; have p224 : 0 ≤ (x4_2 : Int) := zD; have q224 : x4_2 < (l0_2.length : Int) := zD; obtain ⟨ad224, e224, hx224_0, hx224_1, hx224_2, hx224_3, hx224_4⟩ := at_T47 HR0_2.out x4_2 p224 q224
       cases e224
       replace hx224_0 := zL HB hx224_0; replace hx224_1 := zL HB hx224_1; replace hx224_2 := zL HB hx224_2; replace hx224_3 := zL HB hx224_3; replace hx224_4 := zL HB hx224_4; replace p224 := eq_true p224; replace q224 := eq_true q224
       go_upto_region 8 with (first | ((with_reducible refine gkd (N := 5) rfl ?_); (try (refine gate_guard (by rfl) ?_; dsimp only)); refine bxe ?hg (N := 5) ?hd (cs := #[.int .i64 0, .int .i64 0, .int .i64 0, .int .i64 0, .int .i64 0]) (t := 47) ?hr ?_; (case hd => rfl); (case hg => rfl); (case hr => first | (go_simp; done) | (go_simp; rfl)); intro gb225 hg w18 hbox hb; have BK225 := Zs.mk (hbox); have GW225 := zG (w := w) hg; have GE225 := zG (w := w) hg; replace HB := zBs hb; have NB223_225 := zN hg (zK BK223); have NB225_223 := zM hg (zK BK223); replace BK223 := zKb BK223 hb; clear hb hbox hg; have hnb19 := NB225_223.out; have hnc19 := NB223_225.out; obtain ⟨hcz20_0, hcz20_1, hcz20_2, hcz20_3, hcz20_4⟩ := zC5 BK225; obtain ⟨hfz20_0, hfz20_1, hfz20_2, hfz20_3, hfz20_4⟩ := zZ5 BK225))
       repeat (go_quiet (skip); try go_wp2)
       (try simp only [Act.put, List.setIfInBounds_toArray, List.set_cons_zero, List.set_cons_succ])
       go_cut [96] (fun v96 wc => ∃ (kq : Nat) (x96_15 : Bool), v96 = .bool x96_15 ∧ Zs (aR_Valid.j2 kq x3_2 x4_2 x96_15 a0_0 a0_1 l0_2 ((rTO l0_2 x4_2).f0) ((rTO l0_2 x4_2).f1) ((rTO l0_2 x4_2).f2) ((rTO l0_2 x4_2).f3) ((rTO l0_2 x4_2).f4) = some r) ∧ Zs (kq ≤ k2) ∧ Zs (wc.heap[gb223]? = some (.cells #[.int .i64 a0_0, .int .i64 a0_1, (.slice (some ad224) l0_2.length c0_2)] 36 (0, 0))) ∧ Zs (wc.heap[gb225]? = some (.cells #[.int .i64 ((rTO l0_2 x4_2).f0), .int .i64 ((rTO l0_2 x4_2).f1), .int .i64 ((rTO l0_2 x4_2).f2), .int .i64 ((rTO l0_2 x4_2).f3), .int .i64 ((rTO l0_2 x4_2).f4)] 47 (0, 0))) ∧ Zs (Below w.heap.size w wc))
       case first =>
        have H := HC16.out; clear HC16
        by_cases c21 : ((rTO l0_2 x4_2).f0) < 1
        ·
         rw [if_pos c21] at H
         have c21b0 := decide_eq_true c21; clear c21
         (first | rw [c21b0] | (simp only [i64_w, i32_w]; rw [c21b0]) | skip)
         have H' := Zs.mk H; clear H; have hnb22 := NB225_223.out; have hnc22 := NB223_225.out; obtain ⟨hcz23_0, hcz23_1, hcz23_2, hcz23_3, hcz23_4⟩ := zC5 BK225; obtain ⟨hfz23_0, hfz23_1, hfz23_2, hfz23_3, hfz23_4⟩ := zZ5 BK225
         go_wp2
         repeat (go_quiet (skip); try go_wp2)
         go_meet
         case rel => exact ⟨_, (true), zs, H', ⟨by have := HJ1.out; have := HK2.out; first | omega | exact Nat.le_refl _⟩, ⟨zF BK223⟩, ⟨zY BK225⟩, ⟨zB⟩⟩
        ·
         rw [if_neg c21] at H
         have c21b0 := decide_eq_false c21; clear c21
         (first | rw [c21b0] | (simp only [i64_w, i32_w]; rw [c21b0]) | skip)
         by_cases c24 : ((rTO l0_2 x4_2).f0) > 1099511627776
         ·
          rw [if_pos c24] at H
          have c24b0 := decide_eq_true c24; clear c24; have H' := Zs.mk H; clear H; have hnb25 := NB225_223.out; have hnc25 := NB223_225.out; obtain ⟨hcz26_0, hcz26_1, hcz26_2, hcz26_3, hcz26_4⟩ := zC5 BK225; obtain ⟨hfz26_0, hfz26_1, hfz26_2, hfz26_3, hfz26_4⟩ := zZ5 BK225
          go_wp2
          repeat (go_quiet (skip); try go_wp2)
          go_meet
          case rel => exact ⟨_, (true), zs, H', ⟨by have := HJ1.out; have := HK2.out; first | omega | exact Nat.le_refl _⟩, ⟨zF BK223⟩, ⟨zY BK225⟩, ⟨zB⟩⟩
         ·
          rw [if_neg c24] at H
          have c24b0 := decide_eq_false c24; clear c24
          by_cases c27 : ((rTO l0_2 x4_2).f1) < 1
          ·
           rw [if_pos c27] at H
           have c27b0 := decide_eq_true c27; clear c27; have H' := Zs.mk H; clear H; have hnb28 := NB225_223.out; have hnc28 := NB223_225.out; obtain ⟨hcz29_0, hcz29_1, hcz29_2, hcz29_3, hcz29_4⟩ := zC5 BK225; obtain ⟨hfz29_0, hfz29_1, hfz29_2, hfz29_3, hfz29_4⟩ := zZ5 BK225
           go_wp2
           repeat (go_quiet (skip); try go_wp2)
           go_meet
           case rel => exact ⟨_, (true), zs, H', ⟨by have := HJ1.out; have := HK2.out; first | omega | exact Nat.le_refl _⟩, ⟨zF BK223⟩, ⟨zY BK225⟩, ⟨zB⟩⟩
          ·
           rw [if_neg c27] at H
           have c27b0 := decide_eq_false c27; clear c27
           by_cases c30 : ((rTO l0_2 x4_2).f1) > 1099511627776
           ·
            rw [if_pos c30] at H
            have c30b0 := decide_eq_true c30; clear c30; have H' := Zs.mk H; clear H; have hnb31 := NB225_223.out; have hnc31 := NB223_225.out; obtain ⟨hcz32_0, hcz32_1, hcz32_2, hcz32_3, hcz32_4⟩ := zC5 BK225; obtain ⟨hfz32_0, hfz32_1, hfz32_2, hfz32_3, hfz32_4⟩ := zZ5 BK225
            go_wp2
            repeat (go_quiet (skip); try go_wp2)
            go_meet
            case rel => exact ⟨_, (true), zs, H', ⟨by have := HJ1.out; have := HK2.out; first | omega | exact Nat.le_refl _⟩, ⟨zF BK223⟩, ⟨zY BK225⟩, ⟨zB⟩⟩
           ·
            rw [if_neg c30] at H
            have c30b0 := decide_eq_false c30; clear c30
            by_cases c33 : ((rTO l0_2 x4_2).f2) < 0
            ·
             rw [if_pos c33] at H
             have c33b0 := decide_eq_true c33; clear c33; have H' := Zs.mk H; clear H; have hnb34 := NB225_223.out; have hnc34 := NB223_225.out; obtain ⟨hcz35_0, hcz35_1, hcz35_2, hcz35_3, hcz35_4⟩ := zC5 BK225; obtain ⟨hfz35_0, hfz35_1, hfz35_2, hfz35_3, hfz35_4⟩ := zZ5 BK225
             go_wp2
             repeat (go_quiet (skip); try go_wp2)
             go_meet
             case rel => exact ⟨_, (true), zs, H', ⟨by have := HJ1.out; have := HK2.out; first | omega | exact Nat.le_refl _⟩, ⟨zF BK223⟩, ⟨zY BK225⟩, ⟨zB⟩⟩
            ·
             rw [if_neg c33] at H
             have c33b0 := decide_eq_false c33; clear c33
             by_cases c36 : ((rTO l0_2 x4_2).f2) > 1099511627776
             ·
              rw [if_pos c36] at H
              have c36b0 := decide_eq_true c36; clear c36; have H' := Zs.mk H; clear H; have hnb37 := NB225_223.out; have hnc37 := NB223_225.out; obtain ⟨hcz38_0, hcz38_1, hcz38_2, hcz38_3, hcz38_4⟩ := zC5 BK225; obtain ⟨hfz38_0, hfz38_1, hfz38_2, hfz38_3, hfz38_4⟩ := zZ5 BK225
              go_wp2
              repeat (go_quiet (skip); try go_wp2)
              go_meet
              case rel => exact ⟨_, (true), zs, H', ⟨by have := HJ1.out; have := HK2.out; first | omega | exact Nat.le_refl _⟩, ⟨zF BK223⟩, ⟨zY BK225⟩, ⟨zB⟩⟩
             ·
              rw [if_neg c36] at H
              have c36b0 := decide_eq_false c36; clear c36
              by_cases c39 : ((rTO l0_2 x4_2).f3) < (-1099511627776)
              ·
               rw [if_pos c39] at H
               have c39b0 := decide_eq_true c39; clear c39; have H' := Zs.mk H; clear H; have hnb40 := NB225_223.out; have hnc40 := NB223_225.out; obtain ⟨hcz41_0, hcz41_1, hcz41_2, hcz41_3, hcz41_4⟩ := zC5 BK225; obtain ⟨hfz41_0, hfz41_1, hfz41_2, hfz41_3, hfz41_4⟩ := zZ5 BK225
               go_wp2
               repeat (go_quiet (skip); try go_wp2)
               go_meet
               case rel => exact ⟨_, (true), zs, H', ⟨by have := HJ1.out; have := HK2.out; first | omega | exact Nat.le_refl _⟩, ⟨zF BK223⟩, ⟨zY BK225⟩, ⟨zB⟩⟩
              ·
               rw [if_neg c39] at H
               have c39b0 := decide_eq_false c39; clear c39
               by_cases c42 : ((rTO l0_2 x4_2).f3) > ((rTO l0_2 x4_2).f2)
               ·
                rw [if_pos c42] at H
                have c42b0 := decide_eq_true c42; clear c42; have H' := Zs.mk H; clear H; have hnb43 := NB225_223.out; have hnc43 := NB223_225.out; obtain ⟨hcz44_0, hcz44_1, hcz44_2, hcz44_3, hcz44_4⟩ := zC5 BK225; obtain ⟨hfz44_0, hfz44_1, hfz44_2, hfz44_3, hfz44_4⟩ := zZ5 BK225
                go_wp2
                repeat (go_quiet (skip); try go_wp2)
                go_meet
                case rel => exact ⟨_, (true), zs, H', ⟨by have := HJ1.out; have := HK2.out; first | omega | exact Nat.le_refl _⟩, ⟨zF BK223⟩, ⟨zY BK225⟩, ⟨zB⟩⟩
               ·
                rw [if_neg c42] at H
                have c42b0 := decide_eq_false c42; clear c42
                by_cases c45 : ((rTO l0_2 x4_2).f4) = (wrap64 (((rTO l0_2 x4_2).f2) - ((rTO l0_2 x4_2).f3)))
                ·
                 rw [if_pos c45] at H
                 obtain ⟨c45b0, c45b1⟩ := zeq c45; clear c45; have H' := Zs.mk H; clear H; have hnb46 := NB225_223.out; have hnc46 := NB223_225.out; obtain ⟨hcz47_0, hcz47_1, hcz47_2, hcz47_3, hcz47_4⟩ := zC5 BK225; obtain ⟨hfz47_0, hfz47_1, hfz47_2, hfz47_3, hfz47_4⟩ := zZ5 BK225
                 go_wp2
                 repeat (go_quiet (skip); try go_wp2)
                 go_meet
                 case rel => exact ⟨_, (decide (((rTO l0_2 x4_2).f4) > 1099511627776)), zs, H', ⟨by have := HJ1.out; have := HK2.out; first | omega | exact Nat.le_refl _⟩, ⟨zF BK223⟩, ⟨zY BK225⟩, ⟨zB⟩⟩
                ·
                 rw [if_neg c45] at H
                 obtain ⟨c45b0, c45b1⟩ := zne c45; have H' := Zs.mk H; clear H; have hnb48 := NB225_223.out; have hnc48 := NB223_225.out; obtain ⟨hcz49_0, hcz49_1, hcz49_2, hcz49_3, hcz49_4⟩ := zC5 BK225; obtain ⟨hfz49_0, hfz49_1, hfz49_2, hfz49_3, hfz49_4⟩ := zZ5 BK225
                 go_wp2
                 repeat (go_quiet (skip); try go_wp2)
                 go_meet
                 case rel => exact ⟨_, (true), zs, H', ⟨by have := HJ1.out; have := HK2.out; first | omega | exact Nat.le_refl _⟩, ⟨zF BK223⟩, ⟨zY BK225⟩, ⟨zB⟩⟩
       case rest =>
        clear HC16
        obtain ⟨kq, x96_15, rfl, HA, HJ15, BK223, BK225, HB⟩ := hcut
        cases kq with
        | zero => exact absurd HA.out (by simp [aR_Valid.j2])
        | succ kj15 =>
         have H := HA.out; clear HA
         simp only [aR_Valid.j2] at H
         by_cases c50 : x96_15 = true
         ·
          subst c50
          rw [if_pos rfl] at H
          obtain rfl := Option.some.inj H
          go_wp2
          repeat (go_quiet (skip); try go_wp2)
          go_ret
          exact ⟨zE, zB⟩
         ·
          replace c50 := Bool.eq_false_iff.mpr c50; subst c50
          rw [if_neg (show ¬ (false = true) by decide)] at H
          by_cases c51 : (wrap64 (x3_2 + ((rTO l0_2 x4_2).f4))) > 1099511627776
          ·
           rw [if_pos c51] at H
           have c51b0 := decide_eq_true c51; clear c51; obtain rfl := Option.some.inj H; have hnb52 := NB225_223.out; have hnc52 := NB223_225.out; obtain ⟨hcz53_0, hcz53_1, hcz53_2, hcz53_3, hcz53_4⟩ := zC5 BK225; obtain ⟨hfz53_0, hfz53_1, hfz53_2, hfz53_3, hfz53_4⟩ := zZ5 BK225
           go_wp2
           repeat (go_quiet (skip); try go_wp2)
           go_ret
           exact ⟨zE, zB⟩
          ·
           rw [if_neg c51] at H
           have c51b0 := decide_eq_false c51; clear c51
           by_cases c54 : x4_2 > 0
           ·
            rw [if_pos c54] at H
            have c54b0 := decide_eq_true c54; clear c54
            obtain ⟨ji55, hji55⟩ : ∃ j_ : Int, (wrap64 (x4_2 - 1)) = j_ := ⟨_, rfl⟩
            replace H : (if 0 ≤ (ji55) then (if (ji55) < (l0_2.length : Int) then (if ((rTO l0_2 x4_2).f0) ≤ ((rTO l0_2 (ji55)).f0) then (some false) else (aR_Valid.l0 kj15 (wrap64 (x3_2 + ((rTO l0_2 x4_2).f4))) (wrap64 (x4_2 + 1)) a0_0 a0_1 l0_2)) else (none)) else (none)) = some r := by first | (rw [hji55] at H; exact H) | (simp only [hji55] at H ⊢; exact H)
            have hji55w : (IntKind.i64.wrap (x4_2 - 1)) = ji55 := (i64_w _).trans hji55
            have c56 := zc H
            rw [if_pos c56] at H
            have c56b0 := decide_eq_true c56; clear c56
            have c57 := zc H
            rw [if_pos c57] at H
            have c57b0 := decide_eq_true c57; clear c57
            by_cases c58 : ((rTO l0_2 x4_2).f0) ≤ ((rTO l0_2 (ji55)).f0)
            ·
             rw [if_pos c58] at H
             have c58b0 := decide_eq_true c58; clear c58; obtain rfl := Option.some.inj H; have hnb59 := NB225_223.out; have hnc59 := NB223_225.out; obtain ⟨hcz60_0, hcz60_1, hcz60_2, hcz60_3, hcz60_4⟩ := zC5 BK225; obtain ⟨hfz60_0, hfz60_1, hfz60_2, hfz60_3, hfz60_4⟩ := zZ5 BK225; obtain ⟨hcz61_0, hcz61_1, hcz61_2⟩ := zC3 BK223; obtain ⟨hfz61_0, hfz61_1, hfz61_2⟩ := zZ3 BK223; have p226 : 0 ≤ ((ji55) : Int) := zD; have q226 : (ji55) < (l0_2.length : Int) := zD; obtain ⟨ad226, e226, hx226_0, hx226_1, hx226_2, hx226_3, hx226_4⟩ := at_T47 HR0_2.out (ji55) p226 q226; obtain rfl : ad224 = ad226 := (by injection e226); replace hx226_0 := zL HB hx226_0; replace hx226_1 := zL HB hx226_1; replace hx226_2 := zL HB hx226_2; replace hx226_3 := zL HB hx226_3; replace hx226_4 := zL HB hx226_4; replace p226 := eq_true p226; replace q226 := eq_true q226
             go_wp2
             repeat (go_quiet (skip); try go_wp2)
             go_ret
             exact ⟨by first | rfl | (simp [errW_none, errW_some] <;> rfl) | (simp only [← hji55]; first | rfl | (simp [errW_none, errW_some] <;> rfl)) | (simp [*, errW_none, errW_some] <;> rfl), zB⟩
            ·
             rw [if_neg c58] at H
             have c58b0 := decide_eq_false c58; clear c58; have H' := Zs.mk H; clear H; have hnb62 := NB225_223.out; have hnc62 := NB223_225.out; obtain ⟨hcz63_0, hcz63_1, hcz63_2, hcz63_3, hcz63_4⟩ := zC5 BK225; obtain ⟨hfz63_0, hfz63_1, hfz63_2, hfz63_3, hfz63_4⟩ := zZ5 BK225; obtain ⟨hcz64_0, hcz64_1, hcz64_2⟩ := zC3 BK223; obtain ⟨hfz64_0, hfz64_1, hfz64_2⟩ := zZ3 BK223; have p226 : 0 ≤ ((ji55) : Int) := zD; have q226 : (ji55) < (l0_2.length : Int) := zD; obtain ⟨ad226, e226, hx226_0, hx226_1, hx226_2, hx226_3, hx226_4⟩ := at_T47 HR0_2.out (ji55) p226 q226; obtain rfl : ad224 = ad226 := (by injection e226); replace hx226_0 := zL HB hx226_0; replace hx226_1 := zL HB hx226_1; replace hx226_2 := zL HB hx226_2; replace hx226_3 := zL HB hx226_3; replace hx226_4 := zL HB hx226_4; replace p226 := eq_true p226; replace q226 := eq_true q226
             go_wp2
             repeat (go_quiet (skip); try go_wp2)
             go_roundg kj15
             case measure => have := HJ1.out; have := HK2.out; have := HJ15.out; omega
             case rel => exact ⟨(wrap64 (x3_2 + ((rTO l0_2 x4_2).f4))), (wrap64 (x4_2 + 1)), zs, zs, H', ⟨by have := HJ1.out; have := HK2.out; have := HJ15.out; omega⟩, ⟨zK BK223⟩, ⟨zB⟩⟩
           ·
            rw [if_neg c54] at H
            have c54b0 := decide_eq_false c54; clear c54; have H' := Zs.mk H; clear H; have hnb65 := NB225_223.out; have hnc65 := NB223_225.out; obtain ⟨hcz66_0, hcz66_1, hcz66_2, hcz66_3, hcz66_4⟩ := zC5 BK225; obtain ⟨hfz66_0, hfz66_1, hfz66_2, hfz66_3, hfz66_4⟩ := zZ5 BK225
            go_wp2
            repeat (go_quiet (skip); try go_wp2)
            go_roundg kj15
            case measure => have := HJ1.out; have := HK2.out; have := HJ15.out; omega
            case rel => exact ⟨(wrap64 (x3_2 + ((rTO l0_2 x4_2).f4))), (wrap64 (x4_2 + 1)), zs, zs, H', ⟨by have := HJ1.out; have := HK2.out; have := HJ15.out; omega⟩, ⟨zK BK223⟩, ⟨zB⟩⟩
      ·
       rw [if_neg c14] at H
       have c14b0 := decide_eq_false c14; clear c14; obtain rfl := Option.some.inj H; obtain ⟨hcz67_0, hcz67_1, hcz67_2⟩ := zC3 BK223; obtain ⟨hfz67_0, hfz67_1, hfz67_2⟩ := zZ3 BK223
       go_wp2
       repeat (go_quiet (skip); try go_wp2)
       go_ret
       exact ⟨zE, zB⟩
end
section
mutual
def aR_Right.j0 : Nat → Bool → Int → Int → List (S78) → Option (Bool)
 | 0, _, _, _, _ => none
 | k + 1, x28, x324000, x324001, x324002 => if x28 = true then (some false) else (aR_Right.l0 k 0 x324000 x324001 x324002)
def aR_Right.l0 : Nat → Int → Int → Int → List (S78) → Option (Bool)
 | 0, _, _, _, _ => none
 | k + 1, x3, x324000, x324001, x324002 => if x3 < (x324002.length : Int) then (if 0 ≤ x3 then (if ((rTP x324002 x3).f0) < 1 then (some false) else (if ((rTP x324002 x3).f0) > 1099511627776 then (some false) else (if ((rTP x324002 x3).f1) < 1 then (some false) else (if ((rTP x324002 x3).f1) > 9 then (some false) else (if x3 > 0 then (if 0 ≤ (wrap64 (x3 - 1)) then (if (wrap64 (x3 - 1)) < (x324002.length : Int) then (if ((rTP x324002 x3).f0) ≤ ((rTP x324002 (wrap64 (x3 - 1))).f0) then (some false) else (aR_Right.l0 k (wrap64 (x3 + 1)) x324000 x324001 x324002)) else (none)) else (none)) else (aR_Right.l0 k (wrap64 (x3 + 1)) x324000 x324001 x324002)))))) else (none)) else (some true)
end
def aR_Right.f (k : Nat) (a0_0 : Int) (a0_1 : Int) (l0_2 : List (S78)) : Option (Bool) := if a0_0 < 1 then (aR_Right.j0 k true a0_0 a0_1 l0_2) else (if a0_0 > 1099511627776 then (aR_Right.j0 k true a0_0 a0_1 l0_2) else (if a0_1 < 0 then (aR_Right.j0 k true a0_0 a0_1 l0_2) else (if a0_1 ≥ 65536 then (aR_Right.j0 k true a0_0 a0_1 l0_2) else (aR_Right.j0 k (decide ((l0_2.length : Int) > 1000)) a0_0 a0_1 l0_2))))
set_option maxHeartbeats 8000000 in
set_option maxRecDepth 100000 in
theorem aR_Right.calls (k : Nat) (a0_0 : Int) (a0_1 : Int) (A0_2 : Option Addr) (c0_2 : Nat) (l0_2 : List (S78)) (r : Bool) (w : World) (hr0_2 : Kd.C k78 w A0_2 l0_2.length l0_2) (hc0_2 : l0_2.length ≤ c0_2) (h : aR_Right.f k a0_0 a0_1 l0_2 = some r) :
  Calls Tryz.prog 38 #[.agg #[.int .i64 a0_0, .int .i64 a0_1, .slice A0_2 l0_2.length c0_2]] w fun e w' => e = .returned (.bool r) ∧ Below w.heap.size w w' := by
 have hu41 := Tryz.underlying41; have hu78 := Tryz.underlying78; have HR0_2 := Zs.mk hr0_2; have HC0_2 := Zs.mk hc0_2; clear hr0_2 hc0_2; have HB := Zs.mk (Below.refl w.heap.size w); have H : (if a0_0 < 1 then (aR_Right.j0 k true a0_0 a0_1 l0_2) else (if a0_0 > 1099511627776 then (aR_Right.j0 k true a0_0 a0_1 l0_2) else (if a0_1 < 0 then (aR_Right.j0 k true a0_0 a0_1 l0_2) else (if a0_1 ≥ 65536 then (aR_Right.j0 k true a0_0 a0_1 l0_2) else (aR_Right.j0 k (decide ((l0_2.length : Int) > 1000)) a0_0 a0_1 l0_2))))) = some r := h; clear h; have HC2 := Zs.mk H; clear H
 go_enter Tryz.func38, Tryz.ntmps38
 go_upto_region 1 with (first | ((with_reducible refine gkd (N := 1) rfl ?_); (try (refine gate_guard (by rfl) ?_; dsimp only)); refine bxe ?hg (N := 1) ?hd (cs := #[.int .i64 a0_0, .int .i64 a0_1, .slice A0_2 l0_2.length c0_2]) (t := 41) ?hr ?_; (case hd => rfl); (case hg => rfl); (case hr => first | (go_simp; done) | (go_simp; rfl)); intro gb323 hg w3 hbox hb; have BK323 := Zs.mk (hbox); have GW323 := zG (w := w) hg; have GE323 := zG (w := w) hg; replace HB := zBs hb; clear hb hbox hg))
 repeat (go_quiet (skip); try go_wp2)
 (try simp only [Act.put, List.setIfInBounds_toArray, List.set_cons_zero, List.set_cons_succ])
 go_cut [28] (fun v28 wc => ∃ (kq : Nat) (x28_1 : Bool), v28 = .bool x28_1 ∧ Zs (aR_Right.j0 kq x28_1 a0_0 a0_1 l0_2 = some r) ∧ Zs (kq ≤ k) ∧ Zs (wc.heap[gb323]? = some (.cells #[.int .i64 a0_0, .int .i64 a0_1, (.slice A0_2 l0_2.length c0_2)] 41 (0, 0))) ∧ Zs (Below w.heap.size w wc))
 case first =>
  have H := HC2.out; clear HC2
  by_cases c4 : a0_0 < 1
  ·
   rw [if_pos c4] at H
   have c4b0 := decide_eq_true c4; clear c4
   (first | rw [c4b0] | (simp only [i64_w, i32_w]; rw [c4b0]) | skip)
   have H' := Zs.mk H; clear H; obtain ⟨hcz5_0, hcz5_1, hcz5_2⟩ := zC3 BK323; obtain ⟨hfz5_0, hfz5_1, hfz5_2⟩ := zZ3 BK323
   go_wp2
   repeat (go_quiet (skip); try go_wp2)
   go_meet
   case rel => exact ⟨_, (true), zs, H', ⟨by first | omega | exact Nat.le_refl _⟩, ⟨zK BK323⟩, ⟨zB⟩⟩
  ·
   rw [if_neg c4] at H
   have c4b0 := decide_eq_false c4; clear c4
   (first | rw [c4b0] | (simp only [i64_w, i32_w]; rw [c4b0]) | skip)
   by_cases c6 : a0_0 > 1099511627776
   ·
    rw [if_pos c6] at H
    have c6b0 := decide_eq_true c6; clear c6; have H' := Zs.mk H; clear H; obtain ⟨hcz7_0, hcz7_1, hcz7_2⟩ := zC3 BK323; obtain ⟨hfz7_0, hfz7_1, hfz7_2⟩ := zZ3 BK323
    go_wp2
    repeat (go_quiet (skip); try go_wp2)
    go_meet
    case rel => exact ⟨_, (true), zs, H', ⟨by first | omega | exact Nat.le_refl _⟩, ⟨zK BK323⟩, ⟨zB⟩⟩
   ·
    rw [if_neg c6] at H
    have c6b0 := decide_eq_false c6; clear c6
    by_cases c8 : a0_1 < 0
    ·
     rw [if_pos c8] at H
     have c8b0 := decide_eq_true c8; clear c8; have H' := Zs.mk H; clear H; obtain ⟨hcz9_0, hcz9_1, hcz9_2⟩ := zC3 BK323; obtain ⟨hfz9_0, hfz9_1, hfz9_2⟩ := zZ3 BK323
     go_wp2
     repeat (go_quiet (skip); try go_wp2)
     go_meet
     case rel => exact ⟨_, (true), zs, H', ⟨by first | omega | exact Nat.le_refl _⟩, ⟨zK BK323⟩, ⟨zB⟩⟩
    ·
     rw [if_neg c8] at H
     have c8b0 := decide_eq_false c8; clear c8
     by_cases c10 : a0_1 ≥ 65536
     ·
      rw [if_pos c10] at H
      have c10b0 := decide_eq_true c10; clear c10; have H' := Zs.mk H; clear H; obtain ⟨hcz11_0, hcz11_1, hcz11_2⟩ := zC3 BK323; obtain ⟨hfz11_0, hfz11_1, hfz11_2⟩ := zZ3 BK323
      go_wp2
      repeat (go_quiet (skip); try go_wp2)
      go_meet
      case rel => exact ⟨_, (true), zs, H', ⟨by first | omega | exact Nat.le_refl _⟩, ⟨zK BK323⟩, ⟨zB⟩⟩
     ·
      rw [if_neg c10] at H
      have c10b0 := decide_eq_false c10; clear c10; have H' := Zs.mk H; clear H; obtain ⟨hcz12_0, hcz12_1, hcz12_2⟩ := zC3 BK323; obtain ⟨hfz12_0, hfz12_1, hfz12_2⟩ := zZ3 BK323
      go_wp2
      repeat (go_quiet (skip); try go_wp2)
      go_meet
      case rel => exact ⟨_, (decide ((l0_2.length : Int) > 1000)), zs, H', ⟨by first | omega | exact Nat.le_refl _⟩, ⟨zK BK323⟩, ⟨zB⟩⟩
 case rest =>
  clear HC2
  obtain ⟨kq, x28_1, rfl, HA, HJ1, BK323, HB⟩ := hcut
  cases kq with
  | zero => exact absurd HA.out (by simp [aR_Right.j0])
  | succ kj1 =>
   have H := HA.out; clear HA
   simp only [aR_Right.j0] at H
   by_cases c13 : x28_1 = true
   ·
    subst c13
    rw [if_pos rfl] at H
    obtain rfl := Option.some.inj H
    go_wp2
    repeat (go_quiet (skip); try go_wp2)
    go_ret
    exact ⟨zE, zB⟩
   ·
    replace c13 := Bool.eq_false_iff.mpr c13; subst c13
    rw [if_neg (show ¬ (false = true) by decide)] at H
    have H' := Zs.mk H; clear H
    go_wp2
    repeat (go_quiet (skip); try go_wp2)
    go_loopg [3] kj1 (fun kq v3 w' => ∃ (x3_2 : Int), v3 = .int .i64 x3_2 ∧ Zs (aR_Right.l0 kq x3_2 a0_0 a0_1 l0_2 = some r) ∧ Zs (kq ≤ kj1) ∧ Zs (w'.heap[gb323]? = some (.cells #[.int .i64 a0_0, .int .i64 a0_1, (.slice A0_2 l0_2.length c0_2)] 41 (0, 0))) ∧ Zs (Below w.heap.size w w'))
    case atStart => exact ⟨(0), zs, H', ⟨Nat.le_refl _⟩, ⟨zK BK323⟩, ⟨zB⟩⟩
    case round =>
     clear H'
     obtain ⟨x3_2, rfl, HA, HK2, BK323, HB⟩ := hrel
     cases gk with
     | zero => exact absurd HA.out (by simp [aR_Right.l0])
     | succ k2 =>
      have H := HA.out; clear HA
      simp only [aR_Right.l0] at H
      by_cases c14 : x3_2 < (l0_2.length : Int)
      ·
       rw [if_pos c14] at H
       have c14b0 := decide_eq_true c14; clear c14
       have c15 := zc H
       rw [if_pos c15] at H
       have c15b0 := decide_eq_true c15; clear c15
       by_cases c16 : ((rTP l0_2 x3_2).f0) < 1
       ·
        rw [if_pos c16] at H
        have c16b0 := decide_eq_true c16; clear c16; obtain rfl := Option.some.inj H; obtain ⟨hcz17_0, hcz17_1, hcz17_2⟩ := zC3 BK323; obtain ⟨hfz17_0, hfz17_1, hfz17_2⟩ := zZ3 BK323; have p324 : 0 ≤ (x3_2 : Int) := zD; have q324 : x3_2 < (l0_2.length : Int) := zD; obtain ⟨ad324, e324, hx324_0, hx324_1⟩ := at_T78 HR0_2.out x3_2 p324 q324
        cases e324
        replace hx324_0 := zL HB hx324_0; replace hx324_1 := zL HB hx324_1; replace p324 := eq_true p324; replace q324 := eq_true q324
        go_wp2_with (first | ((with_reducible refine gkd (N := 4) rfl ?_); (try (refine gate_guard (by rfl) ?_; dsimp only)); refine bxe ?hg (N := 4) ?hd (cs := #[.int .i64 0, .int .i64 0]) (t := 78) ?hr ?_; (case hd => rfl); (case hg => rfl); (case hr => first | (go_simp; done) | (go_simp; rfl)); intro gb325 hg w18 hbox hb; have BK325 := Zs.mk (hbox); have GW325 := zG (w := w) hg; have GE325 := zG (w := w) hg; replace HB := zBs hb; have NB323_325 := zN hg (zK BK323); have NB325_323 := zM hg (zK BK323); replace BK323 := zKb BK323 hb; clear hb hbox hg; have hnb19 := NB325_323.out; have hnc19 := NB323_325.out; obtain ⟨hcz20_0, hcz20_1⟩ := zC2 BK325; obtain ⟨hfz20_0, hfz20_1⟩ := zZ2 BK325))
        repeat (go_quiet (skip); try go_wp2)
        go_ret
        exact ⟨zE, zB⟩
       ·
        rw [if_neg c16] at H
        have c16b0 := decide_eq_false c16; clear c16
        by_cases c21 : ((rTP l0_2 x3_2).f0) > 1099511627776
        ·
         rw [if_pos c21] at H
         have c21b0 := decide_eq_true c21; clear c21; obtain rfl := Option.some.inj H; obtain ⟨hcz22_0, hcz22_1, hcz22_2⟩ := zC3 BK323; obtain ⟨hfz22_0, hfz22_1, hfz22_2⟩ := zZ3 BK323; have p324 : 0 ≤ (x3_2 : Int) := zD; have q324 : x3_2 < (l0_2.length : Int) := zD; obtain ⟨ad324, e324, hx324_0, hx324_1⟩ := at_T78 HR0_2.out x3_2 p324 q324
         cases e324
         replace hx324_0 := zL HB hx324_0; replace hx324_1 := zL HB hx324_1; replace p324 := eq_true p324; replace q324 := eq_true q324
         go_wp2_with (first | ((with_reducible refine gkd (N := 4) rfl ?_); (try (refine gate_guard (by rfl) ?_; dsimp only)); refine bxe ?hg (N := 4) ?hd (cs := #[.int .i64 0, .int .i64 0]) (t := 78) ?hr ?_; (case hd => rfl); (case hg => rfl); (case hr => first | (go_simp; done) | (go_simp; rfl)); intro gb325 hg w23 hbox hb; have BK325 := Zs.mk (hbox); have GW325 := zG (w := w) hg; have GE325 := zG (w := w) hg; replace HB := zBs hb; have NB323_325 := zN hg (zK BK323); have NB325_323 := zM hg (zK BK323); replace BK323 := zKb BK323 hb; clear hb hbox hg; have hnb24 := NB325_323.out; have hnc24 := NB323_325.out; obtain ⟨hcz25_0, hcz25_1⟩ := zC2 BK325; obtain ⟨hfz25_0, hfz25_1⟩ := zZ2 BK325))
         repeat (go_quiet (skip); try go_wp2)
         go_ret
         exact ⟨zE, zB⟩
        ·
         rw [if_neg c21] at H
         have c21b0 := decide_eq_false c21; clear c21
         by_cases c26 : ((rTP l0_2 x3_2).f1) < 1
         ·
          rw [if_pos c26] at H
          have c26b0 := decide_eq_true c26; clear c26; obtain rfl := Option.some.inj H; obtain ⟨hcz27_0, hcz27_1, hcz27_2⟩ := zC3 BK323; obtain ⟨hfz27_0, hfz27_1, hfz27_2⟩ := zZ3 BK323; have p324 : 0 ≤ (x3_2 : Int) := zD; have q324 : x3_2 < (l0_2.length : Int) := zD; obtain ⟨ad324, e324, hx324_0, hx324_1⟩ := at_T78 HR0_2.out x3_2 p324 q324
          cases e324
          replace hx324_0 := zL HB hx324_0; replace hx324_1 := zL HB hx324_1; replace p324 := eq_true p324; replace q324 := eq_true q324
          go_wp2_with (first | ((with_reducible refine gkd (N := 4) rfl ?_); (try (refine gate_guard (by rfl) ?_; dsimp only)); refine bxe ?hg (N := 4) ?hd (cs := #[.int .i64 0, .int .i64 0]) (t := 78) ?hr ?_; (case hd => rfl); (case hg => rfl); (case hr => first | (go_simp; done) | (go_simp; rfl)); intro gb325 hg w28 hbox hb; have BK325 := Zs.mk (hbox); have GW325 := zG (w := w) hg; have GE325 := zG (w := w) hg; replace HB := zBs hb; have NB323_325 := zN hg (zK BK323); have NB325_323 := zM hg (zK BK323); replace BK323 := zKb BK323 hb; clear hb hbox hg; have hnb29 := NB325_323.out; have hnc29 := NB323_325.out; obtain ⟨hcz30_0, hcz30_1⟩ := zC2 BK325; obtain ⟨hfz30_0, hfz30_1⟩ := zZ2 BK325))
          repeat (go_quiet (skip); try go_wp2)
          go_ret
          exact ⟨zE, zB⟩
         ·
          rw [if_neg c26] at H
          have c26b0 := decide_eq_false c26; clear c26
          by_cases c31 : ((rTP l0_2 x3_2).f1) > 9
          ·
           rw [if_pos c31] at H
           have c31b0 := decide_eq_true c31; clear c31; obtain rfl := Option.some.inj H; obtain ⟨hcz32_0, hcz32_1, hcz32_2⟩ := zC3 BK323; obtain ⟨hfz32_0, hfz32_1, hfz32_2⟩ := zZ3 BK323; have p324 : 0 ≤ (x3_2 : Int) := zD; have q324 : x3_2 < (l0_2.length : Int) := zD; obtain ⟨ad324, e324, hx324_0, hx324_1⟩ := at_T78 HR0_2.out x3_2 p324 q324
           cases e324
           replace hx324_0 := zL HB hx324_0; replace hx324_1 := zL HB hx324_1; replace p324 := eq_true p324; replace q324 := eq_true q324
           go_wp2_with (first | ((with_reducible refine gkd (N := 4) rfl ?_); (try (refine gate_guard (by rfl) ?_; dsimp only)); refine bxe ?hg (N := 4) ?hd (cs := #[.int .i64 0, .int .i64 0]) (t := 78) ?hr ?_; (case hd => rfl); (case hg => rfl); (case hr => first | (go_simp; done) | (go_simp; rfl)); intro gb325 hg w33 hbox hb; have BK325 := Zs.mk (hbox); have GW325 := zG (w := w) hg; have GE325 := zG (w := w) hg; replace HB := zBs hb; have NB323_325 := zN hg (zK BK323); have NB325_323 := zM hg (zK BK323); replace BK323 := zKb BK323 hb; clear hb hbox hg; have hnb34 := NB325_323.out; have hnc34 := NB323_325.out; obtain ⟨hcz35_0, hcz35_1⟩ := zC2 BK325; obtain ⟨hfz35_0, hfz35_1⟩ := zZ2 BK325))
           repeat (go_quiet (skip); try go_wp2)
           go_ret
           exact ⟨zE, zB⟩
          ·
           rw [if_neg c31] at H
           have c31b0 := decide_eq_false c31; clear c31
           by_cases c36 : x3_2 > 0
           ·
            rw [if_pos c36] at H
            have c36b0 := decide_eq_true c36; clear c36
            obtain ⟨ji37, hji37⟩ : ∃ j_ : Int, (wrap64 (x3_2 - 1)) = j_ := ⟨_, rfl⟩
            replace H : (if 0 ≤ (ji37) then (if (ji37) < (l0_2.length : Int) then (if ((rTP l0_2 x3_2).f0) ≤ ((rTP l0_2 (ji37)).f0) then (some false) else (aR_Right.l0 k2 (wrap64 (x3_2 + 1)) a0_0 a0_1 l0_2)) else (none)) else (none)) = some r := by first | (rw [hji37] at H; exact H) | (simp only [hji37] at H ⊢; exact H)
            have hji37w : (IntKind.i64.wrap (x3_2 - 1)) = ji37 := (i64_w _).trans hji37
            have c38 := zc H
            rw [if_pos c38] at H
            have c38b0 := decide_eq_true c38; clear c38
            have c39 := zc H
            rw [if_pos c39] at H
            have c39b0 := decide_eq_true c39; clear c39
            by_cases c40 : ((rTP l0_2 x3_2).f0) ≤ ((rTP l0_2 (ji37)).f0)
            ·
             rw [if_pos c40] at H
             have c40b0 := decide_eq_true c40; clear c40; obtain rfl := Option.some.inj H; obtain ⟨hcz41_0, hcz41_1, hcz41_2⟩ := zC3 BK323; obtain ⟨hfz41_0, hfz41_1, hfz41_2⟩ := zZ3 BK323; have p324 : 0 ≤ (x3_2 : Int) := zD; have q324 : x3_2 < (l0_2.length : Int) := zD; obtain ⟨ad324, e324, hx324_0, hx324_1⟩ := at_T78 HR0_2.out x3_2 p324 q324
             cases e324
             replace hx324_0 := zL HB hx324_0; replace hx324_1 := zL HB hx324_1; replace p324 := eq_true p324; replace q324 := eq_true q324
             go_wp2_with (first | ((with_reducible refine gkd (N := 4) rfl ?_); (try (refine gate_guard (by rfl) ?_; dsimp only)); refine bxe ?hg (N := 4) ?hd (cs := #[.int .i64 0, .int .i64 0]) (t := 78) ?hr ?_; (case hd => rfl); (case hg => rfl); (case hr => first | (go_simp; done) | (go_simp; rfl)); intro gb325 hg w42 hbox hb; have BK325 := Zs.mk (hbox); have GW325 := zG (w := w) hg; have GE325 := zG (w := w) hg; replace HB := zBs hb; have NB323_325 := zN hg (zK BK323); have NB325_323 := zM hg (zK BK323); replace BK323 := zKb BK323 hb; clear hb hbox hg; have hnb43 := NB325_323.out; have hnc43 := NB323_325.out; obtain ⟨hcz44_0, hcz44_1⟩ := zC2 BK325; obtain ⟨hfz44_0, hfz44_1⟩ := zZ2 BK325; obtain ⟨hcz45_0, hcz45_1, hcz45_2⟩ := zC3 BK323; obtain ⟨hfz45_0, hfz45_1, hfz45_2⟩ := zZ3 BK323; have p326 : 0 ≤ ((ji37) : Int) := zD; have q326 : (ji37) < (l0_2.length : Int) := zD; obtain ⟨ad326, e326, hx326_0, hx326_1⟩ := at_T78 HR0_2.out (ji37) p326 q326; obtain rfl : ad324 = ad326 := (by injection e326); have hn326_0 : ad324.block ≠ gb325 := Nat.ne_of_lt (Nat.lt_of_lt_of_le (by have := World.block_lt_of_cell? _ _ hx326_0; first | rwa [adb] at this | exact this) GW325.out); have hn326_1 : ad324.block ≠ gb325 := Nat.ne_of_lt (Nat.lt_of_lt_of_le (by have := World.block_lt_of_cell? _ _ hx326_0; first | rwa [adb] at this | exact this) GW325.out); replace hx326_0 := zL HB hx326_0; replace hx326_1 := zL HB hx326_1; replace hx326_0 := (cfr (p := ⟨gb325, 0, none⟩) (by first | (rw [adb]; exact hn326_0) | (show (Addr.add _ _).block ≠ _; rw [adb]; exact hn326_0) | exact hn326_0) (.int .i64 ((rTP l0_2 x3_2).f0))).trans hx326_0; replace hx326_1 := (cfr (p := ⟨gb325, 0, none⟩) (by first | (rw [adb]; exact hn326_0) | (show (Addr.add _ _).block ≠ _; rw [adb]; exact hn326_0) | exact hn326_0) (.int .i64 ((rTP l0_2 x3_2).f0))).trans hx326_1; replace hx326_0 := (cfr (p := ⟨gb325, 1, none⟩) (by first | (rw [adb]; exact hn326_1) | (show (Addr.add _ _).block ≠ _; rw [adb]; exact hn326_1) | exact hn326_1) (.int .i64 ((rTP l0_2 x3_2).f1))).trans hx326_0; replace hx326_1 := (cfr (p := ⟨gb325, 1, none⟩) (by first | (rw [adb]; exact hn326_1) | (show (Addr.add _ _).block ≠ _; rw [adb]; exact hn326_1) | exact hn326_1) (.int .i64 ((rTP l0_2 x3_2).f1))).trans hx326_1; (try have hy326_0 := fun (n_ : Nat) => (show ((((w42.drewN n_).setCell ⟨gb325, 0, none⟩ (.int .i64 ((rTP l0_2 x3_2).f0))).setCell ⟨gb325, 1, none⟩ (.int .i64 ((rTP l0_2 x3_2).f1)))).cell? _ = some _ from hx326_0)); (try have hy326_1 := fun (n_ : Nat) => (show ((((w42.drewN n_).setCell ⟨gb325, 0, none⟩ (.int .i64 ((rTP l0_2 x3_2).f0))).setCell ⟨gb325, 1, none⟩ (.int .i64 ((rTP l0_2 x3_2).f1)))).cell? _ = some _ from hx326_1)); clear hn326_0; clear hn326_1; replace p326 := eq_true p326; replace q326 := eq_true q326))
             repeat (go_quiet (skip); try go_wp2)
             go_ret
             exact ⟨by first | rfl | (simp [errW_none, errW_some] <;> rfl) | (simp only [← hji37]; first | rfl | (simp [errW_none, errW_some] <;> rfl)) | (simp [*, errW_none, errW_some] <;> rfl), zB⟩
            ·
             rw [if_neg c40] at H
             have c40b0 := decide_eq_false c40; clear c40; have H' := Zs.mk H; clear H; obtain ⟨hcz46_0, hcz46_1, hcz46_2⟩ := zC3 BK323; obtain ⟨hfz46_0, hfz46_1, hfz46_2⟩ := zZ3 BK323; have p324 : 0 ≤ (x3_2 : Int) := zD; have q324 : x3_2 < (l0_2.length : Int) := zD; obtain ⟨ad324, e324, hx324_0, hx324_1⟩ := at_T78 HR0_2.out x3_2 p324 q324
             cases e324
             replace hx324_0 := zL HB hx324_0; replace hx324_1 := zL HB hx324_1; replace p324 := eq_true p324; replace q324 := eq_true q324
             go_wp2_with (first | ((with_reducible refine gkd (N := 4) rfl ?_); (try (refine gate_guard (by rfl) ?_; dsimp only)); refine bxe ?hg (N := 4) ?hd (cs := #[.int .i64 0, .int .i64 0]) (t := 78) ?hr ?_; (case hd => rfl); (case hg => rfl); (case hr => first | (go_simp; done) | (go_simp; rfl)); intro gb325 hg w47 hbox hb; have BK325 := Zs.mk (hbox); have GW325 := zG (w := w) hg; have GE325 := zG (w := w) hg; replace HB := zBs hb; have NB323_325 := zN hg (zK BK323); have NB325_323 := zM hg (zK BK323); replace BK323 := zKb BK323 hb; clear hb hbox hg; have hnb48 := NB325_323.out; have hnc48 := NB323_325.out; obtain ⟨hcz49_0, hcz49_1⟩ := zC2 BK325; obtain ⟨hfz49_0, hfz49_1⟩ := zZ2 BK325; obtain ⟨hcz50_0, hcz50_1, hcz50_2⟩ := zC3 BK323; obtain ⟨hfz50_0, hfz50_1, hfz50_2⟩ := zZ3 BK323; have p326 : 0 ≤ ((ji37) : Int) := zD; have q326 : (ji37) < (l0_2.length : Int) := zD; obtain ⟨ad326, e326, hx326_0, hx326_1⟩ := at_T78 HR0_2.out (ji37) p326 q326; obtain rfl : ad324 = ad326 := (by injection e326); have hn326_0 : ad324.block ≠ gb325 := Nat.ne_of_lt (Nat.lt_of_lt_of_le (by have := World.block_lt_of_cell? _ _ hx326_0; first | rwa [adb] at this | exact this) GW325.out); have hn326_1 : ad324.block ≠ gb325 := Nat.ne_of_lt (Nat.lt_of_lt_of_le (by have := World.block_lt_of_cell? _ _ hx326_0; first | rwa [adb] at this | exact this) GW325.out); replace hx326_0 := zL HB hx326_0; replace hx326_1 := zL HB hx326_1; replace hx326_0 := (cfr (p := ⟨gb325, 0, none⟩) (by first | (rw [adb]; exact hn326_0) | (show (Addr.add _ _).block ≠ _; rw [adb]; exact hn326_0) | exact hn326_0) (.int .i64 ((rTP l0_2 x3_2).f0))).trans hx326_0; replace hx326_1 := (cfr (p := ⟨gb325, 0, none⟩) (by first | (rw [adb]; exact hn326_0) | (show (Addr.add _ _).block ≠ _; rw [adb]; exact hn326_0) | exact hn326_0) (.int .i64 ((rTP l0_2 x3_2).f0))).trans hx326_1; replace hx326_0 := (cfr (p := ⟨gb325, 1, none⟩) (by first | (rw [adb]; exact hn326_1) | (show (Addr.add _ _).block ≠ _; rw [adb]; exact hn326_1) | exact hn326_1) (.int .i64 ((rTP l0_2 x3_2).f1))).trans hx326_0; replace hx326_1 := (cfr (p := ⟨gb325, 1, none⟩) (by first | (rw [adb]; exact hn326_1) | (show (Addr.add _ _).block ≠ _; rw [adb]; exact hn326_1) | exact hn326_1) (.int .i64 ((rTP l0_2 x3_2).f1))).trans hx326_1; (try have hy326_0 := fun (n_ : Nat) => (show ((((w47.drewN n_).setCell ⟨gb325, 0, none⟩ (.int .i64 ((rTP l0_2 x3_2).f0))).setCell ⟨gb325, 1, none⟩ (.int .i64 ((rTP l0_2 x3_2).f1)))).cell? _ = some _ from hx326_0)); (try have hy326_1 := fun (n_ : Nat) => (show ((((w47.drewN n_).setCell ⟨gb325, 0, none⟩ (.int .i64 ((rTP l0_2 x3_2).f0))).setCell ⟨gb325, 1, none⟩ (.int .i64 ((rTP l0_2 x3_2).f1)))).cell? _ = some _ from hx326_1)); clear hn326_0; clear hn326_1; replace p326 := eq_true p326; replace q326 := eq_true q326))
             repeat (go_quiet (skip); try go_wp2)
             go_roundg k2
             case measure => have := HJ1.out; have := HK2.out; omega
             case rel => exact ⟨(wrap64 (x3_2 + 1)), zs, H', ⟨by have := HJ1.out; have := HK2.out; omega⟩, ⟨zF BK323⟩, ⟨zB⟩⟩
           ·
            rw [if_neg c36] at H
            have c36b0 := decide_eq_false c36; clear c36; have H' := Zs.mk H; clear H; obtain ⟨hcz51_0, hcz51_1, hcz51_2⟩ := zC3 BK323; obtain ⟨hfz51_0, hfz51_1, hfz51_2⟩ := zZ3 BK323; have p324 : 0 ≤ (x3_2 : Int) := zD; have q324 : x3_2 < (l0_2.length : Int) := zD; obtain ⟨ad324, e324, hx324_0, hx324_1⟩ := at_T78 HR0_2.out x3_2 p324 q324
            cases e324
            replace hx324_0 := zL HB hx324_0; replace hx324_1 := zL HB hx324_1; replace p324 := eq_true p324; replace q324 := eq_true q324
            go_wp2_with (first | ((with_reducible refine gkd (N := 4) rfl ?_); (try (refine gate_guard (by rfl) ?_; dsimp only)); refine bxe ?hg (N := 4) ?hd (cs := #[.int .i64 0, .int .i64 0]) (t := 78) ?hr ?_; (case hd => rfl); (case hg => rfl); (case hr => first | (go_simp; done) | (go_simp; rfl)); intro gb325 hg w52 hbox hb; have BK325 := Zs.mk (hbox); have GW325 := zG (w := w) hg; have GE325 := zG (w := w) hg; replace HB := zBs hb; have NB323_325 := zN hg (zK BK323); have NB325_323 := zM hg (zK BK323); replace BK323 := zKb BK323 hb; clear hb hbox hg; have hnb53 := NB325_323.out; have hnc53 := NB323_325.out; obtain ⟨hcz54_0, hcz54_1⟩ := zC2 BK325; obtain ⟨hfz54_0, hfz54_1⟩ := zZ2 BK325))
            repeat (go_quiet (skip); try go_wp2)
            go_roundg k2
            case measure => have := HJ1.out; have := HK2.out; omega
            case rel => exact ⟨(wrap64 (x3_2 + 1)), zs, H', ⟨by have := HJ1.out; have := HK2.out; omega⟩, ⟨zF BK323⟩, ⟨zB⟩⟩
      ·
       rw [if_neg c14] at H
       have c14b0 := decide_eq_false c14; clear c14; obtain rfl := Option.some.inj H; obtain ⟨hcz55_0, hcz55_1, hcz55_2⟩ := zC3 BK323; obtain ⟨hfz55_0, hfz55_1, hfz55_2⟩ := zZ3 BK323
       go_wp2
       repeat (go_quiet (skip); try go_wp2)
       go_ret
       exact ⟨zE, zB⟩
end
section
def bank_total.l0 : Nat → Int → List (S47) → Int → Int → Option (Int)
 | 0, _, _, _, _ => none
 | k + 1, x3, x7, x8, x9 => if x9 < x8 then (if 0 ≤ x9 then (if x9 < (x7.length : Int) then (bank_total.l0 k (wrap64 (x3 + ((rTO x7 x9).f4))) x7 x8 (wrap64 (x9 + 1))) else (none)) else (none)) else (some x3)
def bank_total.f (k : Nat) (a0_0 : Int) (a0_1 : Int) (l0_2 : List (S47)) : Option (Int) := bank_total.l0 k 0 l0_2 (l0_2.length : Int) 0
set_option maxHeartbeats 8000000 in
set_option maxRecDepth 100000 in
theorem bank_total.calls (k : Nat) (a0_0 : Int) (a0_1 : Int) (A0_2 : Option Addr) (c0_2 : Nat) (l0_2 : List (S47)) (r : Int) (w : World) (hr0_2 : Kd.C k47 w A0_2 l0_2.length l0_2) (hc0_2 : l0_2.length ≤ c0_2) (h : bank_total.f k a0_0 a0_1 l0_2 = some r) :
  Calls Tryz.prog 46 #[.agg #[.int .i64 a0_0, .int .i64 a0_1, .slice A0_2 l0_2.length c0_2]] w fun e w' => e = .returned (.int .i64 r) ∧ Below w.heap.size w w' := by
 have hu27 := Tryz.underlying27; have hu47 := Tryz.underlying47; have HR0_2 := Zs.mk hr0_2; have HC0_2 := Zs.mk hc0_2; clear hr0_2 hc0_2; have HB := Zs.mk (Below.refl w.heap.size w); have H : (bank_total.l0 k 0 l0_2 (l0_2.length : Int) 0) = some r := h; clear h; have H' := Zs.mk H; clear H
 go_enter Tryz.func46, Tryz.ntmps46
 go_wp2_with (first | ((with_reducible refine gkd (N := 1) rfl ?_); refine bxe ?hg (N := 1) ?hd (cs := #[.int .i64 a0_0, .int .i64 a0_1, .slice A0_2 l0_2.length c0_2]) (t := 27) ?hr ?_; (case hd => rfl); (case hg => rfl); (case hr => first | (go_simp; done) | (go_simp; rfl)); intro gb124 hg w2 hbox hb; have BK124 := Zs.mk (hbox); have GW124 := zG (w := w) hg; have GE124 := zG (w := w) hg; replace HB := zBs hb; clear hb hbox hg; obtain ⟨hcz3_0, hcz3_1, hcz3_2⟩ := zC3 BK124; obtain ⟨hfz3_0, hfz3_1, hfz3_2⟩ := zZ3 BK124))
 go_loopg [3, 9] k (fun kq v3 v9 w' => ∃ (x3_1 : Int) (x9_1 : Int), v3 = .int .i64 x3_1 ∧ v9 = .int .i64 x9_1 ∧ Zs (bank_total.l0 kq x3_1 l0_2 (l0_2.length : Int) x9_1 = some r) ∧ Zs (kq ≤ k) ∧ Zs (w'.heap[gb124]? = some (.cells #[.int .i64 a0_0, .int .i64 a0_1, (.slice A0_2 l0_2.length c0_2)] 27 (0, 0))) ∧ Zs (Below w.heap.size w w'))
 case atStart => exact ⟨(0), (0), zs, zs, H', ⟨Nat.le_refl _⟩, ⟨zK BK124⟩, ⟨zB⟩⟩
 case round =>
  clear H'
  obtain ⟨x3_1, x9_1, rfl, rfl, HA, HK1, BK124, HB⟩ := hrel
  cases gk with
  | zero => exact absurd HA.out (by simp [bank_total.l0])
  | succ k1 =>
   have H := HA.out; clear HA
   simp only [bank_total.l0] at H
   by_cases c4 : x9_1 < (l0_2.length : Int)
   ·
    rw [if_pos c4] at H
    have c4b0 := decide_eq_true c4; clear c4
    have c5 := zc H
    rw [if_pos c5] at H
    have c5b0 := decide_eq_true c5; clear c5
    have c6 := zc H
    rw [if_pos c6] at H
    have c6b0 := decide_eq_true c6; clear c6; have H' := Zs.mk H; clear H; have p125 : 0 ≤ (x9_1 : Int) := zD; have q125 : x9_1 < (l0_2.length : Int) := zD; obtain ⟨ad125, e125, hx125_0, hx125_1, hx125_2, hx125_3, hx125_4⟩ := at_T47 HR0_2.out x9_1 p125 q125
    cases e125
    replace hx125_0 := zL HB hx125_0; replace hx125_1 := zL HB hx125_1; replace hx125_2 := zL HB hx125_2; replace hx125_3 := zL HB hx125_3; replace hx125_4 := zL HB hx125_4; replace p125 := eq_true p125; replace q125 := eq_true q125
    go_wp2_with (first | ((with_reducible refine gkd (N := 5) rfl ?_); refine bxe ?hg (N := 5) ?hd (cs := #[.int .i64 0, .int .i64 0, .int .i64 0, .int .i64 0, .int .i64 0]) (t := 47) ?hr ?_; (case hd => rfl); (case hg => rfl); (case hr => first | (go_simp; done) | (go_simp; rfl)); intro gb126 hg w7 hbox hb; have BK126 := Zs.mk (hbox); have GW126 := zG (w := w) hg; have GE126 := zG (w := w) hg; replace HB := zBs hb; have NB124_126 := zN hg (zK BK124); have NB126_124 := zM hg (zK BK124); replace BK124 := zKb BK124 hb; clear hb hbox hg; have hnb8 := NB126_124.out; have hnc8 := NB124_126.out; obtain ⟨hcz9_0, hcz9_1, hcz9_2, hcz9_3, hcz9_4⟩ := zC5 BK126; obtain ⟨hfz9_0, hfz9_1, hfz9_2, hfz9_3, hfz9_4⟩ := zZ5 BK126))
    go_roundg k1
    case measure => have := HK1.out; omega
    case rel => exact ⟨(wrap64 (x3_1 + ((rTO l0_2 x9_1).f4))), (wrap64 (x9_1 + 1)), zs, zs, H', ⟨by have := HK1.out; omega⟩, ⟨zF BK124⟩, ⟨zB⟩⟩
   ·
    rw [if_neg c4] at H
    have c4b0 := decide_eq_false c4; clear c4; obtain rfl := Option.some.inj H
    go_wp2
    go_ret
    exact ⟨zE, zB⟩
end
section
def bank_Total.f (k : Nat) (a0_0 : Int) (a0_1 : Int) (l0_2 : List (S47)) : Option (Int × Int) := (bank_Valid.f k a0_0 a0_1 l0_2).bind fun t128 => (if t128 = true then ((bank_total.f k a0_0 a0_1 l0_2).bind fun t129 => (some (t129, 0))) else (some (0, 2)))
set_option maxHeartbeats 8000000 in
set_option maxRecDepth 100000 in
theorem bank_Total.calls (k : Nat) (a0_0 : Int) (a0_1 : Int) (A0_2 : Option Addr) (c0_2 : Nat) (l0_2 : List (S47)) (r1 : Int) (r2 : Int) (w : World) (hr0_2 : Kd.C k47 w A0_2 l0_2.length l0_2) (hc0_2 : l0_2.length ≤ c0_2) (h : bank_Total.f k a0_0 a0_1 l0_2 = some (r1, r2)) :
  Calls Tryz.prog 26 #[.agg #[.int .i64 a0_0, .int .i64 a0_1, .slice A0_2 l0_2.length c0_2]] w fun e w' => e = .returned (.tuple #[.int .i64 r1, .int .i64 r2]) ∧ Below w.heap.size w w' := by
 have hu27 := Tryz.underlying27; have HR0_2 := Zs.mk hr0_2; have HC0_2 := Zs.mk hc0_2; clear hr0_2 hc0_2; have HB := Zs.mk (Below.refl w.heap.size w); have H : ((bank_Valid.f k a0_0 a0_1 l0_2).bind fun t128 => (if t128 = true then ((bank_total.f k a0_0 a0_1 l0_2).bind fun t129 => (some (t129, 0))) else (some (0, 2)))) = some (r1, r2) := h; clear h; obtain ⟨t128, A2, H⟩ := zb H; (try dsimp only [-Int.reduceToNat] at H)
 by_cases c3 : t128 = true
 ·
  subst c3
  rw [if_pos rfl] at H
  replace H := Option.bind_eq_some_iff.mp H; obtain ⟨t129, A40, H⟩ := H; replace H : (some (t129, 0)) = some (r1, r2) := H; have A4 := Zs.mk A40; clear A40
  simp only [Option.some.injEq, Prod.mk.injEq] at H
  obtain ⟨rfl, rfl⟩ := H
  go_enter Tryz.func26, Tryz.ntmps26
  go_wp2_with (first | ((with_reducible refine gkd (N := 1) rfl ?_); refine bxe ?hg (N := 1) ?hd (cs := #[.int .i64 a0_0, .int .i64 a0_1, .slice A0_2 l0_2.length c0_2]) (t := 27) ?hr ?_; (case hd => rfl); (case hg => rfl); (case hr => first | (go_simp; done) | (go_simp; rfl)); intro gb127 hg w5 hbox hb; have BK127 := Zs.mk (hbox); have GW127 := zG (w := w) hg; have GE127 := zG (w := w) hg; replace HB := zBs hb; clear hb hbox hg; obtain ⟨hcz6_0, hcz6_1, hcz6_2⟩ := zC3 BK127; obtain ⟨hfz6_0, hfz6_1, hfz6_2⟩ := zZ3 BK127) | ((with_reducible refine gkc (f := 22) rfl ?_); refine zgo (some 5) Tryz.func22 #[.agg #[.int .i64 a0_0, .int .i64 a0_1, .slice A0_2 l0_2.length c0_2]] ?_; (with_reducible refine (bank_Valid.calls k a0_0 a0_1 _ _ l0_2 true _ ?side1 ?side2 A2.out).mono ?_); (case side1 => exact zQC HR0_2); (case side2 => exact HC0_2.out); rintro e w7 ⟨rfl, hb⟩; refine ⟨_, rfl, ?_⟩; replace BK127 := zKb BK127 hb; replace HB := zBs hb; obtain ⟨hcz8_0, hcz8_1, hcz8_2⟩ := zC3 BK127; obtain ⟨hfz8_0, hfz8_1, hfz8_2⟩ := zZ3 BK127) | ((with_reducible refine gkc (f := 46) rfl ?_); refine zgo (some 8) Tryz.func46 #[.agg #[.int .i64 a0_0, .int .i64 a0_1, .slice A0_2 l0_2.length c0_2]] ?_; (with_reducible refine (bank_total.calls k a0_0 a0_1 _ _ l0_2 t129 _ ?side1 ?side2 A4.out).mono ?_); (case side1 => exact zQC HR0_2); (case side2 => exact HC0_2.out); rintro e w9 ⟨rfl, hb⟩; refine ⟨_, rfl, ?_⟩; replace BK127 := zKb BK127 hb; replace HB := zBs hb))
  go_ret2
  exact ⟨zE, zB⟩
 ·
  replace c3 := Bool.eq_false_iff.mpr c3; subst c3
  rw [if_neg (show ¬ (false = true) by decide)] at H
  simp only [Option.some.injEq, Prod.mk.injEq] at H
  obtain ⟨rfl, rfl⟩ := H
  go_enter Tryz.func26, Tryz.ntmps26
  go_wp2_with (first | ((with_reducible refine gkd (N := 1) rfl ?_); refine bxe ?hg (N := 1) ?hd (cs := #[.int .i64 a0_0, .int .i64 a0_1, .slice A0_2 l0_2.length c0_2]) (t := 27) ?hr ?_; (case hd => rfl); (case hg => rfl); (case hr => first | (go_simp; done) | (go_simp; rfl)); intro gb127 hg w10 hbox hb; have BK127 := Zs.mk (hbox); have GW127 := zG (w := w) hg; have GE127 := zG (w := w) hg; replace HB := zBs hb; clear hb hbox hg; obtain ⟨hcz11_0, hcz11_1, hcz11_2⟩ := zC3 BK127; obtain ⟨hfz11_0, hfz11_1, hfz11_2⟩ := zZ3 BK127) | ((with_reducible refine gkc (f := 22) rfl ?_); refine zgo (some 5) Tryz.func22 #[.agg #[.int .i64 a0_0, .int .i64 a0_1, .slice A0_2 l0_2.length c0_2]] ?_; (with_reducible refine (bank_Valid.calls k a0_0 a0_1 _ _ l0_2 false _ ?side1 ?side2 A2.out).mono ?_); (case side1 => exact zQC HR0_2); (case side2 => exact HC0_2.out); rintro e w12 ⟨rfl, hb⟩; refine ⟨_, rfl, ?_⟩; replace BK127 := zKb BK127 hb; replace HB := zBs hb))
  go_ret2
  exact ⟨zE, zB⟩
end
section
def aR_sum.l0 : Nat → Int → Int → Int → Int → List (S47) → Option (Int)
 | 0, _, _, _, _, _ => none
 | k + 1, x3, x4, x237000, x237001, x237002 => if x4 < (x237002.length : Int) then (if 0 ≤ x4 then (aR_sum.l0 k (wrap64 (x3 + ((rTO x237002 x4).f4))) (wrap64 (x4 + 1)) x237000 x237001 x237002) else (none)) else (some x3)
def aR_sum.f (k : Nat) (a0_0 : Int) (a0_1 : Int) (l0_2 : List (S47)) : Option (Int) := aR_sum.l0 k 0 0 a0_0 a0_1 l0_2
set_option maxHeartbeats 8000000 in
set_option maxRecDepth 100000 in
theorem aR_sum.calls (k : Nat) (a0_0 : Int) (a0_1 : Int) (A0_2 : Option Addr) (c0_2 : Nat) (l0_2 : List (S47)) (r : Int) (w : World) (hr0_2 : Kd.C k47 w A0_2 l0_2.length l0_2) (hc0_2 : l0_2.length ≤ c0_2) (h : aR_sum.f k a0_0 a0_1 l0_2 = some r) :
  Calls Tryz.prog 37 #[.agg #[.int .i64 a0_0, .int .i64 a0_1, .slice A0_2 l0_2.length c0_2]] w fun e w' => e = .returned (.int .i64 r) ∧ Below w.heap.size w w' := by
 have hu36 := Tryz.underlying36; have HR0_2 := Zs.mk hr0_2; have HC0_2 := Zs.mk hc0_2; clear hr0_2 hc0_2; have HB := Zs.mk (Below.refl w.heap.size w); have H : (aR_sum.l0 k 0 0 a0_0 a0_1 l0_2) = some r := h; clear h; have H' := Zs.mk H; clear H
 go_enter Tryz.func37, Tryz.ntmps37
 go_wp2_with (first | ((with_reducible refine gkd (N := 1) rfl ?_); refine bxe ?hg (N := 1) ?hd (cs := #[.int .i64 a0_0, .int .i64 a0_1, .slice A0_2 l0_2.length c0_2]) (t := 36) ?hr ?_; (case hd => rfl); (case hg => rfl); (case hr => first | (go_simp; done) | (go_simp; rfl)); intro gb236 hg w2 hbox hb; have BK236 := Zs.mk (hbox); have GW236 := zG (w := w) hg; have GE236 := zG (w := w) hg; replace HB := zBs hb; clear hb hbox hg))
 go_loopg [3, 4] k (fun kq v3 v4 w' => ∃ (x3_1 : Int) (x4_1 : Int), v3 = .int .i64 x3_1 ∧ v4 = .int .i64 x4_1 ∧ Zs (aR_sum.l0 kq x3_1 x4_1 a0_0 a0_1 l0_2 = some r) ∧ Zs (kq ≤ k) ∧ Zs (w'.heap[gb236]? = some (.cells #[.int .i64 a0_0, .int .i64 a0_1, (.slice A0_2 l0_2.length c0_2)] 36 (0, 0))) ∧ Zs (Below w.heap.size w w'))
 case atStart => exact ⟨(0), (0), zs, zs, H', ⟨Nat.le_refl _⟩, ⟨zK BK236⟩, ⟨zB⟩⟩
 case round =>
  clear H'
  obtain ⟨x3_1, x4_1, rfl, rfl, HA, HK1, BK236, HB⟩ := hrel
  cases gk with
  | zero => exact absurd HA.out (by simp [aR_sum.l0])
  | succ k1 =>
   have H := HA.out; clear HA
   simp only [aR_sum.l0] at H
   by_cases c3 : x4_1 < (l0_2.length : Int)
   ·
    rw [if_pos c3] at H
    have c3b0 := decide_eq_true c3; clear c3
    have c4 := zc H
    rw [if_pos c4] at H
    have c4b0 := decide_eq_true c4; clear c4; have H' := Zs.mk H; clear H; obtain ⟨hcz5_0, hcz5_1, hcz5_2⟩ := zC3 BK236; obtain ⟨hfz5_0, hfz5_1, hfz5_2⟩ := zZ3 BK236; have p237 : 0 ≤ (x4_1 : Int) := zD; have q237 : x4_1 < (l0_2.length : Int) := zD; obtain ⟨ad237, e237, hx237_0, hx237_1, hx237_2, hx237_3, hx237_4⟩ := at_T47 HR0_2.out x4_1 p237 q237
    cases e237
    replace hx237_0 := zL HB hx237_0; replace hx237_1 := zL HB hx237_1; replace hx237_2 := zL HB hx237_2; replace hx237_3 := zL HB hx237_3; replace hx237_4 := zL HB hx237_4; replace p237 := eq_true p237; replace q237 := eq_true q237
    go_wp2
    go_roundg k1
    case measure => have := HK1.out; omega
    case rel => exact ⟨(wrap64 (x3_1 + ((rTO l0_2 x4_1).f4))), (wrap64 (x4_1 + 1)), zs, zs, H', ⟨by have := HK1.out; omega⟩, ⟨zK BK236⟩, ⟨zB⟩⟩
   ·
    rw [if_neg c3] at H
    have c3b0 := decide_eq_false c3; clear c3; obtain rfl := Option.some.inj H; obtain ⟨hcz6_0, hcz6_1, hcz6_2⟩ := zC3 BK236; obtain ⟨hfz6_0, hfz6_1, hfz6_2⟩ := zZ3 BK236
    go_wp2
    go_ret
    exact ⟨zE, zB⟩
end
section
def aR_Total.f (k : Nat) (a0_0 : Int) (a0_1 : Int) (l0_2 : List (S47)) : Option (Int × Int) := (aR_Valid.f k a0_0 a0_1 l0_2).bind fun t411 => (if t411 = true then ((aR_sum.f k a0_0 a0_1 l0_2).bind fun t412 => (some (t412, 0))) else (some (0, 2)))
set_option maxHeartbeats 8000000 in
set_option maxRecDepth 100000 in
theorem aR_Total.calls (k : Nat) (a0_0 : Int) (a0_1 : Int) (A0_2 : Option Addr) (c0_2 : Nat) (l0_2 : List (S47)) (r1 : Int) (r2 : Int) (w : World) (hr0_2 : Kd.C k47 w A0_2 l0_2.length l0_2) (hc0_2 : l0_2.length ≤ c0_2) (h : aR_Total.f k a0_0 a0_1 l0_2 = some (r1, r2)) :
  Calls Tryz.prog 39 #[.agg #[.int .i64 a0_0, .int .i64 a0_1, .slice A0_2 l0_2.length c0_2]] w fun e w' => e = .returned (.tuple #[.int .i64 r1, .int .i64 r2]) ∧ Below w.heap.size w w' := by
 have hu36 := Tryz.underlying36; have HR0_2 := Zs.mk hr0_2; have HC0_2 := Zs.mk hc0_2; clear hr0_2 hc0_2; have HB := Zs.mk (Below.refl w.heap.size w); have H : ((aR_Valid.f k a0_0 a0_1 l0_2).bind fun t411 => (if t411 = true then ((aR_sum.f k a0_0 a0_1 l0_2).bind fun t412 => (some (t412, 0))) else (some (0, 2)))) = some (r1, r2) := h; clear h; obtain ⟨t411, A2, H⟩ := zb H; (try dsimp only [-Int.reduceToNat] at H)
 by_cases c3 : t411 = true
 ·
  subst c3
  rw [if_pos rfl] at H
  replace H := Option.bind_eq_some_iff.mp H; obtain ⟨t412, A40, H⟩ := H; replace H : (some (t412, 0)) = some (r1, r2) := H; have A4 := Zs.mk A40; clear A40
  simp only [Option.some.injEq, Prod.mk.injEq] at H
  obtain ⟨rfl, rfl⟩ := H
  go_enter Tryz.func39, Tryz.ntmps39
  go_wp2_with (first | ((with_reducible refine gkd (N := 1) rfl ?_); refine bxe ?hg (N := 1) ?hd (cs := #[.int .i64 a0_0, .int .i64 a0_1, .slice A0_2 l0_2.length c0_2]) (t := 36) ?hr ?_; (case hd => rfl); (case hg => rfl); (case hr => first | (go_simp; done) | (go_simp; rfl)); intro gb410 hg w5 hbox hb; have BK410 := Zs.mk (hbox); have GW410 := zG (w := w) hg; have GE410 := zG (w := w) hg; replace HB := zBs hb; clear hb hbox hg; obtain ⟨hcz6_0, hcz6_1, hcz6_2⟩ := zC3 BK410; obtain ⟨hfz6_0, hfz6_1, hfz6_2⟩ := zZ3 BK410) | ((with_reducible refine gkc (f := 35) rfl ?_); refine zgo (some 5) Tryz.func35 #[.agg #[.int .i64 a0_0, .int .i64 a0_1, .slice A0_2 l0_2.length c0_2]] ?_; (with_reducible refine (aR_Valid.calls k a0_0 a0_1 _ _ l0_2 true _ ?side1 ?side2 A2.out).mono ?_); (case side1 => exact zQC HR0_2); (case side2 => exact HC0_2.out); rintro e w7 ⟨rfl, hb⟩; refine ⟨_, rfl, ?_⟩; replace BK410 := zKb BK410 hb; replace HB := zBs hb; obtain ⟨hcz8_0, hcz8_1, hcz8_2⟩ := zC3 BK410; obtain ⟨hfz8_0, hfz8_1, hfz8_2⟩ := zZ3 BK410) | ((with_reducible refine gkc (f := 37) rfl ?_); refine zgo (some 8) Tryz.func37 #[.agg #[.int .i64 a0_0, .int .i64 a0_1, .slice A0_2 l0_2.length c0_2]] ?_; (with_reducible refine (aR_sum.calls k a0_0 a0_1 _ _ l0_2 t412 _ ?side1 ?side2 A4.out).mono ?_); (case side1 => exact zQC HR0_2); (case side2 => exact HC0_2.out); rintro e w9 ⟨rfl, hb⟩; refine ⟨_, rfl, ?_⟩; replace BK410 := zKb BK410 hb; replace HB := zBs hb))
  go_ret2
  exact ⟨zE, zB⟩
 ·
  replace c3 := Bool.eq_false_iff.mpr c3; subst c3
  rw [if_neg (show ¬ (false = true) by decide)] at H
  simp only [Option.some.injEq, Prod.mk.injEq] at H
  obtain ⟨rfl, rfl⟩ := H
  go_enter Tryz.func39, Tryz.ntmps39
  go_wp2_with (first | ((with_reducible refine gkd (N := 1) rfl ?_); refine bxe ?hg (N := 1) ?hd (cs := #[.int .i64 a0_0, .int .i64 a0_1, .slice A0_2 l0_2.length c0_2]) (t := 36) ?hr ?_; (case hd => rfl); (case hg => rfl); (case hr => first | (go_simp; done) | (go_simp; rfl)); intro gb410 hg w10 hbox hb; have BK410 := Zs.mk (hbox); have GW410 := zG (w := w) hg; have GE410 := zG (w := w) hg; replace HB := zBs hb; clear hb hbox hg; obtain ⟨hcz11_0, hcz11_1, hcz11_2⟩ := zC3 BK410; obtain ⟨hfz11_0, hfz11_1, hfz11_2⟩ := zZ3 BK410) | ((with_reducible refine gkc (f := 35) rfl ?_); refine zgo (some 5) Tryz.func35 #[.agg #[.int .i64 a0_0, .int .i64 a0_1, .slice A0_2 l0_2.length c0_2]] ?_; (with_reducible refine (aR_Valid.calls k a0_0 a0_1 _ _ l0_2 false _ ?side1 ?side2 A2.out).mono ?_); (case side1 => exact zQC HR0_2); (case side2 => exact HC0_2.out); rintro e w12 ⟨rfl, hb⟩; refine ⟨_, rfl, ?_⟩; replace BK410 := zKb BK410 hb; replace HB := zBs hb))
  go_ret2
  exact ⟨zE, zB⟩
end
end Go.Proofs.YtndojpcjhkncgaaGreatDoor.Q
end
section
namespace Go.Proofs.YtndojpcjhkncgaaGreatDoor.Q
open Go.RowKit Go.Proofs.YtndojpcjhkncgaaGreatDoorW.PrintWords
section
def countB (n : Int) : Bool := decide (1 ≤ n) && decide (n ≤ 1099511627776)
def datedB (n d : Int) : Bool := countB n && (decide (0 ≤ d) && decide (d < 65536))
def orderB (o : S47) : Bool := countB o.f0 && (countB o.f1 && (decide (0 ≤ o.f2) && (decide (o.f2 ≤ 1099511627776) && (decide (-1099511627776 ≤ o.f3) && (decide (o.f3 ≤ o.f2) && (decide (o.f4 = o.f2 - o.f3) && decide (o.f4 ≤ 1099511627776)))))))
def ordersB : Int → Int → List S47 → Bool
  | _, _, [] => true
  | last, tot, o :: l => orderB o && (decide (last < o.f0) && (decide (tot + o.f4 ≤ 1099511627776) && ordersB o.f0 (tot + o.f4) l))
def validB (n d : Int) (l : List S47) : Bool := datedB n d && (decide ((l.length : Int) ≤ 1000) && ordersB 0 0 l)
theorem counts_f (n : Int) : bank_counts.f n = some (countB n) := by
  unfold bank_counts.f countB
  by_cases h : 1 ≤ n
  · rw [if_pos h]; simp [h]
  · rw [if_neg h]; simp [h]
theorem dated_f (n d : Int) : bank_dated.f n d = some (datedB n d) := by
  unfold bank_dated.f datedB
  rw [counts_f]
  simp only [Option.bind_some]
  cases countB n with
  | false => simp
  | true =>
    by_cases h : 0 ≤ d
    · simp [h]
    · simp [h]
theorem orderB_net {o : S47} (h : orderB o = true) : 0 ≤ o.f4 ∧ o.f4 ≤ 1099511627776 ∧ 1 ≤ o.f0 ∧ o.f0 ≤ 1099511627776 := by
  simp only [orderB, countB, Bool.and_eq_true, decide_eq_true_eq] at h
  omega
theorem right_f (o : S47) : bank_right.f o.f0 o.f1 o.f2 o.f3 o.f4 = some (orderB o) := by
  unfold bank_right.f orderB
  rw [counts_f, counts_f]
  simp only [Option.bind_some]
  cases countB o.f0 with
  | false => simp
  | true =>
    cases countB o.f1 with
    | false => simp
    | true =>
      by_cases h2 : 0 ≤ o.f2
      · by_cases h3 : o.f2 ≤ 1099511627776
        · by_cases h4 : -1099511627776 ≤ o.f3
          · by_cases h5 : o.f3 ≤ o.f2
            · rw [w64 (by omega) (by omega)]
              by_cases h6 : o.f4 = o.f2 - o.f3
              · simp [h2, h3, h4, h5, h6]
              · simp [h2, h3, h4, h5, h6]
            · simp [h2, h3, h4, h5]
          · simp [h2, h3, h4]
        · simp [h2, h3]
      · simp [h2]
theorem rdT (L : List S47) (i : Nat) (h : i < L.length) : rTO L (i : Int) = L[i] := by unfold rTO; simp [h]
theorem Valid_l0 (L : List S47) (hL : (L.length : Int) ≤ 4611686018427387904) (d : Nat) : ∀ (i : Nat) (last tot : Int), i + d = L.length → 0 ≤ tot → tot ≤ 1099511627776 →
    Ev (fun k => bank_Valid.l0 k last tot L (L.length : Int) (i : Int)) (ordersB last tot (L.drop i)) := by
  induction d with
  | zero =>
    intro i last tot hi h0 h1
    rw [List.drop_eq_nil_of_le (by omega)]
    refine Ev.step (fun k => by rw [bank_Valid.l0]) (Ev.neg (by omega) (Ev.now true))
  | succ d ih =>
    intro i last tot hi h0 h1
    have hlt : i < L.length := by omega
    rw [drop_get L i hlt]
    refine Ev.step (fun k => by rw [bank_Valid.l0]) (Ev.pos (by omega) (Ev.pos (by omega) (Ev.pos (by omega) ?_)))
    rw [rdT L i hlt, right_f]
    refine Ev.const rfl ?_
    simp only [ordersB]
    cases hb : orderB L[i] with
    | false => exact Ev.neg (by simp) (Ev.now false)
    | true =>
      have hn := orderB_net hb
      refine Ev.pos rfl ?_
      rw [w64 (n := tot + L[i].f4) (by omega) (by omega)]
      by_cases h2 : L[i].f0 ≤ last
      · refine Ev.pos h2 ?_
        rw [decide_eq_false (by omega : ¬ last < L[i].f0)]
        exact Ev.now false
      · refine Ev.neg h2 ?_
        rw [decide_eq_true (by omega : last < L[i].f0)]
        by_cases h3 : tot + L[i].f4 ≤ 1099511627776
        · refine Ev.neg (by omega) ?_
          rw [decide_eq_true h3]
          have := ih (i + 1) L[i].f0 (tot + L[i].f4) (by omega) (by omega) h3
          rw [w64 (by omega) (by omega)]
          exact this
        · refine Ev.pos (by omega) ?_
          rw [decide_eq_false h3]
          exact Ev.now false
theorem Valid_ev (n d : Int) (L : List S47) (hL : (L.length : Int) ≤ 4611686018427387904) : Ev (fun k => bank_Valid.f k n d L) (validB n d L) := by
  unfold bank_Valid.f validB
  refine Ev.const (dated_f n d) ?_
  cases datedB n d with
  | false => exact Ev.neg (by simp) (Ev.step (fun k => by rw [bank_Valid.j0]) (Ev.pos rfl (Ev.now false)))
  | true =>
    refine Ev.pos rfl (Ev.step (fun k => by rw [bank_Valid.j0]) ?_)
    by_cases h : (L.length : Int) ≤ 1000
    · refine Ev.neg (by simp; omega) ?_
      have := Valid_l0 L hL L.length 0 0 0 (by omega) (by omega) (by omega)
      simpa [h] using this
    · refine Ev.pos (by simp; omega) ?_
      rw [decide_eq_false h]
      exact Ev.now false
def before (L : List S47) (i : Nat) : Int := if i = 0 then 0 else (L.getD (i - 1) z47).f0
theorem ref_j2 (L : List S47) (n d : Int) (o : S47) (bad : Bool) (tot : Int) (i : Nat) (hi : i < L.length) (hL : (L.length : Int) ≤ 4611686018427387904) (h0 : 0 ≤ tot) (h1 : tot ≤ 1099511627776) (hb : bad = true → orderB o = false) (hb' : bad = false → orderB o = true)
    (ih : orderB o = true → tot + o.f4 ≤ 1099511627776 → Ev (fun k => aR_Valid.l0 k (tot + o.f4) ((i : Int) + 1) n d L) (ordersB o.f0 (tot + o.f4) (L.drop (i + 1)))) :
    Ev (fun k => aR_Valid.j2 k tot (i : Int) bad n d L o.f0 o.f1 o.f2 o.f3 o.f4) (ordersB (before L i) tot (o :: L.drop (i + 1))) := by
  refine Ev.step (fun k => by rw [aR_Valid.j2]) ?_
  cases bad with
  | true =>
    simp only [ordersB]
    rw [hb rfl]
    exact Ev.pos (by trivial) (Ev.now false)
  | false =>
    have hO := hb' rfl
    have hn := orderB_net hO
    simp only [ordersB]
    rw [hO]
    refine Ev.neg (by simp) ?_
    rw [w64 (n := tot + o.f4) (by omega) (by omega)]
    by_cases h3 : tot + o.f4 ≤ 1099511627776
    · refine Ev.neg (by omega) ?_
      have ih := ih hO h3
      rw [w64 (n := (i : Int) + 1) (by omega) (by omega)]
      rw [decide_eq_true h3]
      by_cases hz : i = 0
      · subst hz
        refine Ev.neg (by omega) ?_
        rw [show before L 0 = 0 from rfl, decide_eq_true (by omega : (0 : Int) < o.f0)]
        exact ih
      · refine Ev.pos (by omega) ?_
        rw [w64 (n := (i : Int) - 1) (by omega) (by omega)]
        refine Ev.pos (by omega) (Ev.pos (by omega) ?_)
        have hr : (rTO L ((i : Int) - 1)).f0 = before L i := by
          unfold before rTO
          rw [if_neg hz, show ((i : Int) - 1).toNat = i - 1 by omega]
        rw [hr]
        by_cases h2 : o.f0 ≤ before L i
        · refine Ev.pos h2 ?_
          rw [decide_eq_false (by omega : ¬ before L i < o.f0)]
          exact Ev.now false
        · refine Ev.neg h2 ?_
          rw [decide_eq_true (by omega : before L i < o.f0)]
          exact ih
    · refine Ev.pos (by omega) ?_
      rw [decide_eq_false h3]
      simp only [Bool.false_and, Bool.and_false]
      exact Ev.now false
theorem ref_l0 (L : List S47) (n d0 : Int) (hL : (L.length : Int) ≤ 4611686018427387904) (d : Nat) : ∀ (i : Nat) (tot : Int), i + d = L.length → 0 ≤ tot → tot ≤ 1099511627776 →
    Ev (fun k => aR_Valid.l0 k tot (i : Int) n d0 L) (ordersB (before L i) tot (L.drop i)) := by
  induction d with
  | zero =>
    intro i tot hi h0 h1
    rw [List.drop_eq_nil_of_le (by omega)]
    refine Ev.step (fun k => by rw [aR_Valid.l0]) (Ev.neg (by omega) (Ev.now true))
  | succ d ih =>
    intro i tot hi h0 h1
    have hlt : i < L.length := by omega
    rw [drop_get L i hlt]
    have hb : before L (i + 1) = L[i].f0 := by unfold before; rw [if_neg (by omega), Nat.add_sub_cancel]; simp [hlt]
    have go : ∀ bad, (bad = true → orderB L[i] = false) → (bad = false → orderB L[i] = true) → Ev (fun k => aR_Valid.j2 k tot (i : Int) bad n d0 L L[i].f0 L[i].f1 L[i].f2 L[i].f3 L[i].f4) (ordersB (before L i) tot (L[i] :: L.drop (i + 1))) := by
      intro bad h h'
      refine ref_j2 L n d0 L[i] bad tot i hlt hL h0 h1 h h' ?_
      intro hO h3
      have := ih (i + 1) (tot + L[i].f4) (by omega) (by have := orderB_net hO; omega) h3
      rw [hb] at this
      exact this
    refine Ev.step (fun k => by rw [aR_Valid.l0]) (Ev.pos (by omega) (Ev.pos (by omega) ?_))
    rw [rdT L i hlt]
    have no : ∀ {c : Prop}, (c → orderB L[i] = false) → c → Ev (fun k => aR_Valid.j2 k tot (i : Int) true n d0 L L[i].f0 L[i].f1 L[i].f2 L[i].f3 L[i].f4) (ordersB (before L i) tot (L[i] :: L.drop (i + 1))) := fun h hc => go true (fun _ => h hc) (fun e => by cases e)
    by_cases c1 : L[i].f0 < 1
    · exact Ev.pos c1 (no (fun _ => by simp [orderB, countB]; omega) c1)
    refine Ev.neg c1 ?_
    by_cases c2 : L[i].f0 > 1099511627776
    · exact Ev.pos c2 (no (fun _ => by simp [orderB, countB]; omega) c2)
    refine Ev.neg c2 ?_
    by_cases c3 : L[i].f1 < 1
    · exact Ev.pos c3 (no (fun _ => by simp [orderB, countB]; omega) c3)
    refine Ev.neg c3 ?_
    by_cases c4 : L[i].f1 > 1099511627776
    · exact Ev.pos c4 (no (fun _ => by simp [orderB, countB]; omega) c4)
    refine Ev.neg c4 ?_
    by_cases c5 : L[i].f2 < 0
    · exact Ev.pos c5 (no (fun _ => by simp [orderB, countB]; omega) c5)
    refine Ev.neg c5 ?_
    by_cases c6 : L[i].f2 > 1099511627776
    · exact Ev.pos c6 (no (fun _ => by simp [orderB, countB]; omega) c6)
    refine Ev.neg c6 ?_
    by_cases c7 : L[i].f3 < -1099511627776
    · exact Ev.pos c7 (no (fun _ => by simp [orderB, countB]; omega) c7)
    refine Ev.neg c7 ?_
    by_cases c8 : L[i].f3 > L[i].f2
    · exact Ev.pos c8 (no (fun _ => by simp [orderB, countB]; omega) c8)
    refine Ev.neg c8 ?_
    rw [w64 (by omega) (by omega)]
    by_cases c9 : L[i].f4 = L[i].f2 - L[i].f3
    · refine Ev.pos c9 (go _ ?_ ?_)
      · intro h
        have h := of_decide_eq_true h
        simp [orderB, countB]
        omega
      · intro h
        have h := of_decide_eq_false h
        simp [orderB, countB]
        omega
    · exact Ev.neg c9 (no (fun _ => by simp [orderB, countB]; omega) c9)
theorem refValid_ev (n d : Int) (L : List S47) (hL : (L.length : Int) ≤ 4611686018427387904) : Ev (fun k => aR_Valid.f k n d L) (validB n d L) := by
  unfold aR_Valid.f validB
  have no : datedB n d = false → Ev (fun k => aR_Valid.j0 k true n d L) (datedB n d && (decide ((L.length : Int) ≤ 1000) && ordersB 0 0 L)) := by
    intro h
    rw [h]
    exact Ev.step (fun k => by rw [aR_Valid.j0]) (Ev.pos rfl (Ev.now false))
  by_cases c1 : n < 1
  · exact Ev.pos c1 (no (by simp [datedB, countB]; omega))
  refine Ev.neg c1 ?_
  by_cases c2 : n > 1099511627776
  · exact Ev.pos c2 (no (by simp [datedB, countB]; omega))
  refine Ev.neg c2 ?_
  by_cases c3 : d < 0
  · exact Ev.pos c3 (no (by simp [datedB, countB]; omega))
  refine Ev.neg c3 ?_
  by_cases c4 : d ≥ 65536
  · exact Ev.pos c4 (no (by simp [datedB, countB]; omega))
  refine Ev.neg c4 ?_
  rw [show datedB n d = true by simp [datedB, countB]; omega]
  refine Ev.step (fun k => by rw [aR_Valid.j0]) ?_
  by_cases h : (L.length : Int) ≤ 1000
  · refine Ev.neg (by simp; omega) ?_
    have := ref_l0 L n d hL L.length 0 0 (by omega) (by omega) (by omega)
    rw [show before L 0 = 0 from rfl] at this
    simpa [h] using this
  · refine Ev.pos (by simp; omega) ?_
    rw [decide_eq_false h]
    exact Ev.now false
def backB (o : S49) : Bool := countB o.f0 && (decide (1 ≤ o.f1) && decide (o.f1 ≤ 9))
def backsB : Int → List S49 → Bool
  | _, [] => true
  | last, o :: l => decide (last < o.f0) && (backB o && backsB o.f0 l)
def rightB (n d : Int) (l : List S49) : Bool := backsB 0 l && (datedB n d && decide ((l.length : Int) ≤ 1000))
theorem rdR (L : List S49) (i : Nat) (h : i < L.length) : rTR L (i : Int) = L[i] := by unfold rTR; simp [h]
theorem rdP (L : List S78) (i : Nat) (h : i < L.length) : rTP L (i : Int) = L[i] := by unfold rTP; simp [h]
theorem Right_l0 (L : List S49) (n dd : Int) (hL : (L.length : Int) ≤ 4611686018427387904) (d : Nat) : ∀ (i : Nat) (last : Int), i + d = L.length →
    Ev (fun k => bank_Right.l0 k last L (L.length : Int) (i : Int) n dd L) (backsB last (L.drop i) && (datedB n dd && decide ((L.length : Int) ≤ 1000))) := by
  induction d with
  | zero =>
    intro i last hi
    rw [List.drop_eq_nil_of_le (by omega)]
    refine Ev.step (fun k => by rw [bank_Right.l0]) (Ev.neg (by omega) (Ev.const (dated_f n dd) ?_))
    cases datedB n dd with
    | false => exact Ev.neg (by simp) (Ev.now false)
    | true => exact Ev.pos rfl (Ev.ret (by simp [backsB]))
  | succ d ih =>
    intro i last hi
    have hlt : i < L.length := by omega
    rw [drop_get L i hlt]
    refine Ev.step (fun k => by rw [bank_Right.l0]) (Ev.pos (by omega) (Ev.pos (by omega) (Ev.pos (by omega) ?_)))
    rw [rdR L i hlt]
    simp only [backsB]
    by_cases h1 : L[i].f0 ≤ last
    · refine Ev.pos h1 ?_
      rw [decide_eq_false (by omega : ¬ last < L[i].f0)]
      exact Ev.now false
    · refine Ev.neg h1 (Ev.const (counts_f _) ?_)
      rw [decide_eq_true (by omega : last < L[i].f0)]
      unfold backB
      cases countB L[i].f0 with
      | false => exact Ev.neg (by simp) (Ev.now false)
      | true =>
        refine Ev.pos (by trivial) ?_
        by_cases h2 : L[i].f1 < 1
        · refine Ev.pos h2 ?_
          rw [decide_eq_false (by omega : ¬ 1 ≤ L[i].f1)]
          exact Ev.now false
        · refine Ev.neg h2 ?_
          by_cases h3 : L[i].f1 > 9
          · refine Ev.pos h3 ?_
            rw [decide_eq_false (by omega : ¬ L[i].f1 ≤ 9)]
            simp only [Bool.and_false, Bool.false_and, Bool.true_and]
            exact Ev.now false
          · refine Ev.neg h3 ?_
            rw [decide_eq_true (by omega : 1 ≤ L[i].f1), decide_eq_true (by omega : L[i].f1 ≤ 9), w64 (by omega) (by omega)]
            simp only [Bool.true_and]
            exact ih (i + 1) L[i].f0 (by omega)
theorem Right_ev (n d : Int) (L : List S49) (hL : (L.length : Int) ≤ 4611686018427387904) : Ev (fun k => bank_Right.f k n d L) (rightB n d L) := by
  unfold bank_Right.f rightB
  exact Right_l0 L n d hL L.length 0 0 (by omega)
def asRef (o : S49) : S78 := ⟨o.f0, o.f1⟩
def beforeR (L : List S49) (i : Nat) : Int := if i = 0 then 0 else (L.getD (i - 1) z49).f0
theorem refR_l0 (L : List S49) (n d0 : Int) (hL : (L.length : Int) ≤ 4611686018427387904) (d : Nat) : ∀ (i : Nat), i + d = L.length →
    Ev (fun k => aR_Right.l0 k (i : Int) n d0 (L.map asRef)) (backsB (beforeR L i) (L.drop i)) := by
  have hl : (L.map asRef).length = L.length := List.length_map ..
  induction d with
  | zero =>
    intro i hi
    rw [List.drop_eq_nil_of_le (by omega)]
    refine Ev.step (fun k => by rw [aR_Right.l0]) (Ev.neg (by omega) (Ev.now true))
  | succ d ih =>
    intro i hi
    have hlt : i < L.length := by omega
    rw [drop_get L i hlt]
    have hb : beforeR L (i + 1) = L[i].f0 := by unfold beforeR; rw [if_neg (by omega), Nat.add_sub_cancel]; simp [hlt]
    refine Ev.step (fun k => by rw [aR_Right.l0]) (Ev.pos (by omega) (Ev.pos (by omega) ?_))
    rw [rdP (L.map asRef) i (by omega), List.getElem_map]
    simp only [asRef, backsB, backB, countB]
    by_cases c1 : L[i].f0 < 1
    · refine Ev.pos c1 (Ev.ret ?_)
      rw [decide_eq_false (by omega : ¬ 1 ≤ L[i].f0)]; simp
    refine Ev.neg c1 ?_
    by_cases c2 : L[i].f0 > 1099511627776
    · refine Ev.pos c2 (Ev.ret ?_)
      rw [decide_eq_false (by omega : ¬ L[i].f0 ≤ 1099511627776)]; simp
    refine Ev.neg c2 ?_
    by_cases c3 : L[i].f1 < 1
    · refine Ev.pos c3 (Ev.ret ?_)
      rw [decide_eq_false (by omega : ¬ 1 ≤ L[i].f1)]; simp
    refine Ev.neg c3 ?_
    by_cases c4 : L[i].f1 > 9
    · refine Ev.pos c4 (Ev.ret ?_)
      rw [decide_eq_false (by omega : ¬ L[i].f1 ≤ 9)]; simp
    refine Ev.neg c4 ?_
    rw [decide_eq_true (by omega : 1 ≤ L[i].f0), decide_eq_true (by omega : L[i].f0 ≤ 1099511627776), decide_eq_true (by omega : 1 ≤ L[i].f1), decide_eq_true (by omega : L[i].f1 ≤ 9)]
    have ih := ih (i + 1) (by omega)
    rw [hb] at ih
    rw [w64 (n := (i : Int) + 1) (by omega) (by omega)]
    simp only [Bool.true_and]
    by_cases hz : i = 0
    · subst hz
      refine Ev.neg (by omega) ?_
      rw [show beforeR L 0 = 0 from rfl, decide_eq_true (by omega : (0 : Int) < L[0].f0)]
      simpa using ih
    · refine Ev.pos (by omega) ?_
      rw [w64 (n := (i : Int) - 1) (by omega) (by omega)]
      refine Ev.pos (by omega) (Ev.pos (by omega) ?_)
      have hr : (rTP (L.map asRef) ((i : Int) - 1)).f0 = beforeR L i := by
        unfold beforeR rTP
        rw [if_neg hz, show ((i : Int) - 1).toNat = i - 1 by omega]
        have : i - 1 < L.length := by omega
        simp [this, asRef]
      rw [hr]
      by_cases h2 : L[i].f0 ≤ beforeR L i
      · refine Ev.pos h2 ?_
        rw [decide_eq_false (by omega : ¬ beforeR L i < L[i].f0)]
        exact Ev.now false
      · refine Ev.neg h2 ?_
        rw [decide_eq_true (by omega : beforeR L i < L[i].f0)]
        simpa using ih
theorem refRight_ev (n d : Int) (L : List S49) (hL : (L.length : Int) ≤ 4611686018427387904) : Ev (fun k => aR_Right.f k n d (L.map asRef)) (rightB n d L) := by
  have hl : (L.map asRef).length = L.length := List.length_map ..
  unfold aR_Right.f rightB
  have no : datedB n d = false → Ev (fun k => aR_Right.j0 k true n d (L.map asRef)) (backsB 0 L && (datedB n d && decide ((L.length : Int) ≤ 1000))) := by
    intro h
    rw [h]
    exact Ev.step (fun k => by rw [aR_Right.j0]) (Ev.pos rfl (Ev.ret (by simp)))
  by_cases c1 : n < 1
  · exact Ev.pos c1 (no (by simp [datedB, countB]; omega))
  refine Ev.neg c1 ?_
  by_cases c2 : n > 1099511627776
  · exact Ev.pos c2 (no (by simp [datedB, countB]; omega))
  refine Ev.neg c2 ?_
  by_cases c3 : d < 0
  · exact Ev.pos c3 (no (by simp [datedB, countB]; omega))
  refine Ev.neg c3 ?_
  by_cases c4 : d ≥ 65536
  · exact Ev.pos c4 (no (by simp [datedB, countB]; omega))
  refine Ev.neg c4 ?_
  rw [show datedB n d = true by simp [datedB, countB]; omega]
  refine Ev.step (fun k => by rw [aR_Right.j0]) ?_
  by_cases h : (L.length : Int) ≤ 1000
  · refine Ev.neg (by rw [hl]; simp; omega) ?_
    have := refR_l0 L n d hL L.length 0 (by omega)
    rw [show beforeR L 0 = 0 from rfl] at this
    simpa [h] using this
  · refine Ev.pos (by rw [hl]; simp; omega) ?_
    rw [decide_eq_false h]
    exact Ev.ret (by simp)
def netSum (l : List S47) : Int := (l.map fun o => o.f4).sum
theorem netSum_le : ∀ (l : List S47) (last tot : Int), 0 ≤ tot → tot ≤ 1099511627776 → ordersB last tot l = true → 0 ≤ netSum l ∧ tot + netSum l ≤ 1099511627776
  | [], last, tot, h0, h1, _ => by simp [netSum]; omega
  | o :: l, last, tot, h0, h1, h => by
    simp only [ordersB, Bool.and_eq_true, decide_eq_true_eq] at h
    obtain ⟨ho, _, ht, hr⟩ := h
    have hn := orderB_net ho
    have := netSum_le l o.f0 (tot + o.f4) (by omega) ht hr
    unfold netSum at this ⊢
    simp only [List.map_cons, List.sum_cons]
    omega
theorem total_l0 (L : List S47) (hL : (L.length : Int) ≤ 4611686018427387904) (d : Nat) : ∀ (i : Nat) (last tot : Int), i + d = L.length → 0 ≤ tot → tot ≤ 1099511627776 → ordersB last tot (L.drop i) = true →
    Ev (fun k => bank_total.l0 k tot L (L.length : Int) (i : Int)) (tot + netSum (L.drop i)) ∧ ∀ n dd, Ev (fun k => aR_sum.l0 k tot (i : Int) n dd L) (tot + netSum (L.drop i)) := by
  induction d with
  | zero =>
    intro i last tot hi h0 h1 hv
    rw [List.drop_eq_nil_of_le (by omega)]
    exact ⟨Ev.step (fun k => by rw [bank_total.l0]) (Ev.neg (by omega) (Ev.ret (by simp [netSum]))), fun n dd => Ev.step (fun k => by rw [aR_sum.l0]) (Ev.neg (by omega) (Ev.ret (by simp [netSum])))⟩
  | succ d ih =>
    intro i last tot hi h0 h1 hv
    have hlt : i < L.length := by omega
    rw [drop_get L i hlt] at hv ⊢
    simp only [ordersB, Bool.and_eq_true, decide_eq_true_eq] at hv
    obtain ⟨ho, _, ht, hr⟩ := hv
    have hn := orderB_net ho
    obtain ⟨h2, h3⟩ := ih (i + 1) L[i].f0 (tot + L[i].f4) (by omega) (by omega) ht hr
    have e : tot + netSum (L[i] :: L.drop (i + 1)) = tot + L[i].f4 + netSum (L.drop (i + 1)) := by unfold netSum; rw [List.map_cons, List.sum_cons]; omega
    rw [e]
    constructor
    · refine Ev.step (fun k => by rw [bank_total.l0]) (Ev.pos (by omega) (Ev.pos (by omega) (Ev.pos (by omega) ?_)))
      rw [rdT L i hlt, w64 (n := tot + L[i].f4) (by omega) (by omega), w64 (by omega) (by omega)]
      exact h2
    · intro n dd
      refine Ev.step (fun k => by rw [aR_sum.l0]) (Ev.pos (by omega) (Ev.pos (by omega) ?_))
      rw [rdT L i hlt, w64 (n := tot + L[i].f4) (by omega) (by omega), w64 (by omega) (by omega)]
      exact h3 n dd
theorem valid_orders {n d : Int} {L : List S47} (h : validB n d L = true) : datedB n d = true ∧ (L.length : Int) ≤ 1000 ∧ ordersB 0 0 L = true := by
  simp only [validB, Bool.and_eq_true, decide_eq_true_eq] at h
  exact h
theorem total_ev (n d : Int) (L : List S47) (h : validB n d L = true) : Ev (fun k => bank_total.f k n d L) (netSum L) ∧ Ev (fun k => aR_sum.f k n d L) (netSum L) := by
  obtain ⟨_, h1, h2⟩ := valid_orders h
  obtain ⟨h3, h4⟩ := total_l0 L (by omega) L.length 0 0 0 (by omega) (by omega) (by omega) h2
  exact ⟨(Ev.eq h3 (by simp)), (Ev.eq (h4 n d) (by simp))⟩
def totalS (n d : Int) (L : List S47) : Int × Int := if validB n d L = true then (netSum L, 0) else (0, 2)
theorem Total_ev (n d : Int) (L : List S47) (hL : (L.length : Int) ≤ 4611686018427387904) : Ev (fun k => bank_Total.f k n d L) (totalS n d L) ∧ Ev (fun k => aR_Total.f k n d L) (totalS n d L) := by
  unfold bank_Total.f aR_Total.f totalS
  constructor
  · refine Ev.bind (Valid_ev n d L hL) ?_
    cases h : validB n d L with
    | false => exact Ev.neg (by simp) (Ev.now (0, 2))
    | true => exact Ev.pos rfl (Ev.bind (total_ev n d L h).1 (Ev.now (netSum L, 0)))
  · refine Ev.bind (refValid_ev n d L hL) ?_
    cases h : validB n d L with
    | false => exact Ev.neg (by simp) (Ev.now (0, 2))
    | true => exact Ev.pos rfl (Ev.bind (total_ev n d L h).2 (Ev.now (netSum L, 0)))
end
end Go.Proofs.YtndojpcjhkncgaaGreatDoor.Q
end
