import Derived.Shelf.Strings.Builder1
import Derived.Shelf.Strings.Builder2
import Derived.Shelf.Strings.OnBuilder
import Derived.Shelf.Strings.Trim
import Derived.Shelf.Small.Utf8
import Derived.Shelf.Small.Strs
import Derived.Shelf.Strings.BuilderF
import Derived.Shelf.Strings.BuilderK
import Derived.Shelf.Strings.Builder2Cap
import Derived.Shelf.Strconv.Atoi
import Derived.Shelf.Strconv.Itoa0
import Derived.Shelf.Strconv.Itoa1
import Derived.Shelf.LaysM
import Derived.Shelf.Strconv.Itoa2
import Derived.Shelf.Strconv.Itoa3
import Derived.Shelf.Strconv.AtoiErrFast
import Derived.Shelf.Strconv.ParseIntEmpty
import Derived.Shelf.Strconv.AtoiFail
import Derived.Shelf.Strconv.Clone
import Derived.Shelf.Strconv.SyntaxError
import Derived.Shelf.LaysC
import Derived.Shelf.Strconv.ToError
import Derived.Shelf.Strconv.Lower
import Derived.Shelf.Strconv.ParseUint10
import Derived.Shelf.Strconv.ParseUint10Empty
import Derived.Shelf.Strconv.ParseUint10Any
import Derived.Shelf.Strconv.ParseInt10
import Derived.Shelf.Strconv.AtoiLong
import Derived.Shelf.Strconv.AtoiInnerAll
import Derived.Shelf.Strconv.RangeError
import Derived.Shelf.Strconv.ToErrorRange
import Derived.Shelf.Strconv.AtoiAll
import Derived.Shelf.Strconv.ErrVarAll
import Derived.Shelf.Strconv.ParseUintEmpty
import Derived.Shelf.Strconv.ParseUint10b64
import Derived.Shelf.Strconv.ParseUint10b32
import Derived.Shelf.Strconv.ParseUint10b16
import Derived.Shelf.Strconv.ParseUint10b8
import Derived.Shelf.Strconv.ParseUint10At
import Derived.Shelf.Strconv.ParseInt10At64
import Derived.Shelf.Strconv.ParseInt10At32
import Derived.Shelf.Strconv.ParseInt10At16
import Derived.Shelf.Strconv.ParseInt10At8
import Derived.Shelf.Strconv.ParseInt10All
import Derived.Shelf.Strings.Search1
import Derived.Shelf.Strings.Search2
import Derived.Shelf.Strings.Search3
import Derived.Shelf.Strings.Cut
import Derived.Shelf.Strings.Count
import Derived.Shelf.Strings.Shaped
import Derived.Shelf.Strings.Prefix
import Derived.Shelf.Strings.Split
import Derived.Shelf.Strings.SplitShaped
import Derived.Shelf.Strings.Runes
import Derived.Shelf.Strings.AsciiSet
import Derived.Shelf.Unicode.DecodeSlow
import Derived.Shelf.Strings.BuilderCap
import Derived.Test.YtgpemnmopogppaaGreatDoorProg
set_option maxRecDepth 1000000
set_option maxHeartbeats 16000000
namespace Go.Proofs
open Go.Proofs.Tryz
theorem fs {α : Type} {x : Option α} {a b : α} (h : x = some a) (e : a = b) : x = some b := h.trans (congrArg some e)
open Go.Shelf
def Tryz.lays169_ren : Go.Shelf.Ren := ⟨fun | 169 => 42 | n => n, fun | 70 => 70 | 9 => 9 | 0 => 0 | 72 => 73 | 37 => 71 | 127 => 117 | 3 => 3 | 5 => 5 | n => n, fun | n => n⟩
theorem Tryz.lays169 : Go.Proofs.Lays.n169 prog Tryz.lays169_ren := {
 mixed := by kernel_rfl
 f169 := fs func42 (by kernel_rfl)
 t0 := underlying0
 a0 := isAgg0
 z0 := sizeOf0
 v0 := zeroValue0
 t3 := underlying3
 a3 := isAgg3
 z3 := sizeOf3
 v3 := zeroValue3
 t9 := underlying9
 a9 := isAgg9
 z9 := sizeOf9
 v9 := zeroValue9
 t37 := underlying71
 a37 := isAgg71
 z37 := sizeOf71
 v37 := zeroValue71
 t70 := underlying70
 a70 := isAgg70
 z70 := sizeOf70
 v70 := zeroValue70
 t72 := underlying73
 a72 := isAgg73
 z72 := sizeOf73
 v72 := zeroValue73
 t127 := underlying117
 a127 := isAgg117
 z127 := sizeOf117
 v127 := zeroValue117 }
theorem Tryz.Builder_Extra_169 : Builder.Extra prog Tryz.lays169_ren := {
 sizeBuilder := by kernel_rfl
 liesBuilder := by kernel_rfl
 t5 := underlying5
 a5 := isAgg5
 z5 := sizeOf5
 v5 := zeroValue5
 infoByte := by kernel_rfl
 cellsByte := by kernel_rfl
 sizeByte := by kernel_rfl
 neB5 := by decide }
def Tryz.lays161_ren : Go.Shelf.Ren := ⟨fun | 161 => 82 | 231 => 122 | 227 => 123 | 233 => 124 | 235 => 125 | 228 => 149 | 197 => 135 | 151 => 150 | 260 => 154 | 152 => 165 | 137 => 116 | 119 => 182 | 224 => 139 | 225 => 138 | 217 => 137 | 266 => 155 | n => n, fun | 9 => 9 | 4 => 4 | 3 => 3 | 5 => 5 | 117 => 158 | 116 => 157 | 0 => 0 | 124 => 161 | 105 => 169 | 21 => 21 | 119 => 209 | 46 => 79 | 139 => 212 | 138 => 211 | n => n, fun | 3 => 1 | 4 => 2 | n => n⟩
theorem Tryz.lays161 : Go.Proofs.Lays.n161 prog Tryz.lays161_ren := {
 mixed := by kernel_rfl
 f119 := fs func182 (by kernel_rfl)
 f137 := fs func116 (by kernel_rfl)
 f151 := fs func150 (by kernel_rfl)
 f152 := fs func165 (by kernel_rfl)
 f161 := fs func82 (by kernel_rfl)
 f197 := fs func135 (by kernel_rfl)
 f217 := fs func137 (by kernel_rfl)
 f224 := fs func139 (by kernel_rfl)
 f225 := fs func138 (by kernel_rfl)
 f227 := fs func123 (by kernel_rfl)
 f228 := fs func149 (by kernel_rfl)
 f231 := fs func122 (by kernel_rfl)
 f233 := fs func124 (by kernel_rfl)
 f235 := fs func125 (by kernel_rfl)
 f260 := fs func154 (by kernel_rfl)
 f266 := fs func155 (by kernel_rfl)
 t0 := underlying0
 a0 := isAgg0
 z0 := sizeOf0
 v0 := zeroValue0
 t3 := underlying3
 a3 := isAgg3
 z3 := sizeOf3
 v3 := zeroValue3
 t4 := underlying4
 a4 := isAgg4
 z4 := sizeOf4
 v4 := zeroValue4
 t5 := underlying5
 a5 := isAgg5
 z5 := sizeOf5
 v5 := zeroValue5
 t9 := underlying9
 a9 := isAgg9
 z9 := sizeOf9
 v9 := zeroValue9
 t21 := underlying21
 a21 := isAgg21
 z21 := sizeOf21
 v21 := zeroValue21
 t46 := underlying79
 a46 := isAgg79
 z46 := sizeOf79
 v46 := zeroValue79
 t105 := underlying169
 a105 := isAgg169
 z105 := sizeOf169
 v105 := zeroValue169
 t116 := underlying157
 a116 := isAgg157
 z116 := sizeOf157
 t117 := underlying158
 a117 := isAgg158
 z117 := sizeOf158
 v117 := zeroValue158
 t119 := underlying209
 a119 := isAgg209
 z119 := sizeOf209
 t124 := underlying161
 a124 := isAgg161
 z124 := sizeOf161
 v124 := zeroValue161
 t138 := underlying211
 a138 := isAgg211
 z138 := sizeOf211
 v138 := zeroValue211
 t139 := underlying212
 a139 := isAgg212
 z139 := sizeOf212
 v139 := zeroValue212
 g3 := by kernel_rfl
 g4 := by kernel_rfl }
def Tryz.lays162_ren : Go.Shelf.Ren := ⟨fun | 162 => 96 | 232 => 130 | 227 => 123 | 234 => 131 | 236 => 132 | 228 => 149 | 271 => 152 | 151 => 150 | 120 => 166 | 197 => 135 | 152 => 165 | 260 => 154 | 137 => 116 | 119 => 182 | 224 => 139 | 225 => 138 | 217 => 137 | 266 => 155 | n => n, fun | 9 => 9 | 4 => 4 | 3 => 3 | 5 => 5 | 117 => 158 | 116 => 157 | 0 => 0 | 124 => 161 | 21 => 21 | 105 => 169 | 46 => 79 | 119 => 209 | 139 => 212 | 138 => 211 | n => n, fun | 3 => 1 | 4 => 2 | n => n⟩
theorem Tryz.lays162 : Go.Proofs.Lays.n162 prog Tryz.lays162_ren := {
 mixed := by kernel_rfl
 f119 := fs func182 (by kernel_rfl)
 f120 := fs func166 (by kernel_rfl)
 f137 := fs func116 (by kernel_rfl)
 f151 := fs func150 (by kernel_rfl)
 f152 := fs func165 (by kernel_rfl)
 f162 := fs func96 (by kernel_rfl)
 f197 := fs func135 (by kernel_rfl)
 f217 := fs func137 (by kernel_rfl)
 f224 := fs func139 (by kernel_rfl)
 f225 := fs func138 (by kernel_rfl)
 f227 := fs func123 (by kernel_rfl)
 f228 := fs func149 (by kernel_rfl)
 f232 := fs func130 (by kernel_rfl)
 f234 := fs func131 (by kernel_rfl)
 f236 := fs func132 (by kernel_rfl)
 f260 := fs func154 (by kernel_rfl)
 f266 := fs func155 (by kernel_rfl)
 f271 := fs func152 (by kernel_rfl)
 t0 := underlying0
 a0 := isAgg0
 z0 := sizeOf0
 v0 := zeroValue0
 t3 := underlying3
 a3 := isAgg3
 z3 := sizeOf3
 v3 := zeroValue3
 t4 := underlying4
 a4 := isAgg4
 z4 := sizeOf4
 v4 := zeroValue4
 t5 := underlying5
 a5 := isAgg5
 z5 := sizeOf5
 v5 := zeroValue5
 t9 := underlying9
 a9 := isAgg9
 z9 := sizeOf9
 v9 := zeroValue9
 t21 := underlying21
 a21 := isAgg21
 z21 := sizeOf21
 v21 := zeroValue21
 t46 := underlying79
 a46 := isAgg79
 z46 := sizeOf79
 v46 := zeroValue79
 t105 := underlying169
 a105 := isAgg169
 z105 := sizeOf169
 v105 := zeroValue169
 t116 := underlying157
 a116 := isAgg157
 z116 := sizeOf157
 t117 := underlying158
 a117 := isAgg158
 z117 := sizeOf158
 v117 := zeroValue158
 t119 := underlying209
 a119 := isAgg209
 z119 := sizeOf209
 t124 := underlying161
 a124 := isAgg161
 z124 := sizeOf161
 v124 := zeroValue161
 t138 := underlying211
 a138 := isAgg211
 z138 := sizeOf211
 v138 := zeroValue211
 t139 := underlying212
 a139 := isAgg212
 z139 := sizeOf212
 v139 := zeroValue212
 g3 := by kernel_rfl
 g4 := by kernel_rfl }
def Tryz.lays137_ren : Go.Shelf.Ren := ⟨fun | 137 => 116 | 217 => 137 | 266 => 155 | n => n, fun | 9 => 9 | 5 => 5 | 3 => 3 | n => n, fun | n => n⟩
theorem Tryz.lays137 : Go.Proofs.Lays.n137 prog Tryz.lays137_ren := {
 mixed := by kernel_rfl
 f137 := fs func116 (by kernel_rfl)
 f217 := fs func137 (by kernel_rfl)
 f266 := fs func155 (by kernel_rfl)
 t3 := underlying3
 a3 := isAgg3
 z3 := sizeOf3
 v3 := zeroValue3
 t5 := underlying5
 a5 := isAgg5
 z5 := sizeOf5
 v5 := zeroValue5
 t9 := underlying9
 a9 := isAgg9
 z9 := sizeOf9
 v9 := zeroValue9 }
open Go.RowKit in
theorem Tryz.strings_IndexByte (s : ByteArray) (c : Int) (w : World) :
  Calls prog 116 #[.string s, .int .u8 c] w fun e w' => e = .returned (.int .i64 (Lib.indexByte s.data.toList c.toNat.toUInt8)) ∧ w' = w := Any.strings_IndexByte Tryz.lays137 s c w
open Go.RowKit in
theorem Tryz.Builder_String_any_k (B b : Nat) (l : List UInt8) (w : World) (h : Lib.IsBuilderF 73 5 B b (Lib.byteCells l) w) (hBw : B ≤ w.heap.size) :
  Calls prog 42 #[.pointer (some ⟨b, 0, none⟩)] w fun e w' => e = .returned (.string ⟨l.toArray⟩) ∧ (Lib.IsBuilderF 73 5 B b (Lib.byteCells l) w' ∧ Below B w w' ∧ Lib.OthersKept 5 (some b) w w') := Any.Builder_String_any_k Tryz.lays169 Tryz.Builder_Extra_169 B b l w h hBw
def Tryz.laysM171_ren : Go.Shelf.Ren := ⟨fun | 171 => 98 | 243 => 133 | 246 => 153 | 283 => 167 | 284 => 168 | 285 => 169 | 286 => 170 | 129 => 184 | 317 => 183 | 318 => 185 | 319 => 186 | 320 => 187 | 337 => 197 | 338 => 198 | n => n, fun | 3 => 3 | 9 => 9 | 2 => 2 | 4 => 4 | 171 => 203 | 0 => 0 | 53 => 204 | 37 => 71 | 5 => 5 | 173 => 207 | 212 => 235 | 51 => 175 | 20 => 20 | 213 => 236 | 46 => 79 | 232 => 273 | 233 => 274 | n => n, fun | 17 => 3 | 18 => 6 | 19 => 7 | n => n⟩
theorem Tryz.laysM171 : Go.Proofs.LaysM.n171 prog Tryz.laysM171_ren := {
 mixed := by kernel_rfl
 f129 := fs func184 (by kernel_rfl)
 f171 := fs func98 (by kernel_rfl)
 f243 := fs func133 (by kernel_rfl)
 f246 := fs func153 (by kernel_rfl)
 f283 := fs func167 (by kernel_rfl)
 f284 := fs func168 (by kernel_rfl)
 f285 := fs func169 (by kernel_rfl)
 f286 := fs func170 (by kernel_rfl)
 f317 := fs func183 (by kernel_rfl)
 f318 := fs func185 (by kernel_rfl)
 f319 := fs func186 (by kernel_rfl)
 f320 := fs func187 (by kernel_rfl)
 f337 := fs func197 (by kernel_rfl)
 f338 := fs func198 (by kernel_rfl)
 t0 := underlying0
 a0 := isAgg0
 z0 := sizeOf0
 v0 := zeroValue0
 t2 := underlying2
 a2 := isAgg2
 z2 := sizeOf2
 v2 := zeroValue2
 t3 := underlying3
 a3 := isAgg3
 z3 := sizeOf3
 v3 := zeroValue3
 t4 := underlying4
 a4 := isAgg4
 z4 := sizeOf4
 v4 := zeroValue4
 t5 := underlying5
 a5 := isAgg5
 z5 := sizeOf5
 v5 := zeroValue5
 t9 := underlying9
 a9 := isAgg9
 z9 := sizeOf9
 v9 := zeroValue9
 t20 := underlying20
 a20 := isAgg20
 z20 := sizeOf20
 v20 := zeroValue20
 t37 := underlying71
 a37 := isAgg71
 z37 := sizeOf71
 v37 := zeroValue71
 t46 := underlying79
 a46 := isAgg79
 z46 := sizeOf79
 v46 := zeroValue79
 t51 := underlying175
 a51 := isAgg175
 z51 := sizeOf175
 v51 := zeroValue175
 t53 := underlying204
 a53 := isAgg204
 z53 := sizeOf204
 v53 := zeroValue204
 t171 := underlying203
 a171 := isAgg203
 z171 := sizeOf203
 v171 := zeroValue203
 t173 := underlying207
 a173 := isAgg207
 z173 := sizeOf207
 v173 := zeroValue207
 t212 := underlying235
 a212 := isAgg235
 z212 := sizeOf235
 v212 := zeroValue235
 t213 := underlying236
 a213 := isAgg236
 z213 := sizeOf236
 t232 := underlying273
 a232 := isAgg273
 z232 := sizeOf273
 v232 := zeroValue273
 t233 := underlying274
 a233 := isAgg274
 z233 := sizeOf274
 v233 := zeroValue274
 g17 := by kernel_rfl
 g18 := by kernel_rfl
 g19 := by kernel_rfl
 i0 := by kernel_rfl
 i2 := by kernel_rfl
 i3 := by kernel_rfl
 i4 := by kernel_rfl
 i5 := by kernel_rfl
 i9 := by kernel_rfl
 i20 := by kernel_rfl
 i37 := by kernel_rfl
 i46 := by kernel_rfl
 i51 := by kernel_rfl
 i53 := by kernel_rfl
 i171 := by kernel_rfl
 i173 := by kernel_rfl
 i212 := by kernel_rfl
 i232 := by kernel_rfl
 i233 := by kernel_rfl
 m17 := by kernel_rfl
 m18 := by kernel_rfl
 m19 := by kernel_rfl }
open Go.RowKit Go.Sort Go.Lib in
theorem Tryz.strconv_Itoa (n : Int) (h0 : -9223372036854775808 ≤ n) (h1 : n ≤ 9223372036854775807) (w : World) (htab : Lib.TabIs prog w "internal/strconv.uint64pow10" .u64 Lib.pow10Tab) :
  Calls prog 98 #[.int .i64 n] w fun e w' => e = .returned (.string ⟨(Lib.itoa n).toArray⟩) ∧ ∃ k os, w' = grow (w.drewN k) os := Any.strconv_Itoa Tryz.laysM171 n h0 h1 w htab
def Tryz.laysC172_ren : Go.Shelf.Ren := ⟨fun | 172 => 146 | 244 => 161 | 245 => 162 | 247 => 177 | 279 => 178 | 280 => 179 | 281 => 180 | 282 => 181 | 287 => 194 | 316 => 195 | 171 => 98 | 205 => 196 | 321 => 208 | 322 => 209 | 243 => 133 | 246 => 153 | 283 => 167 | 284 => 168 | 285 => 169 | 286 => 170 | 129 => 184 | 317 => 183 | 318 => 185 | 319 => 186 | 320 => 187 | 337 => 197 | 338 => 198 | n => n, fun | 9 => 9 | 3 => 3 | 75 => 75 | 76 => 77 | 4 => 4 | 5 => 5 | 167 => 227 | 37 => 71 | 0 => 0 | 85 => 228 | 2 => 2 | 168 => 230 | 53 => 204 | 175 => 253 | 46 => 79 | 210 => 256 | 127 => 117 | 145 => 272 | 143 => 270 | 21 => 21 | 171 => 203 | 173 => 207 | 212 => 235 | 51 => 175 | 20 => 20 | 213 => 236 | 232 => 273 | 233 => 274 | 80 => 80 | n => n, fun | 15 => 4 | 16 => 5 | 17 => 3 | 18 => 6 | 19 => 7 | n => n⟩
theorem Tryz.laysC172 : Go.Proofs.LaysC.n172 prog Tryz.laysC172_ren := {
 mixed := by kernel_rfl
 f129 := fs func184 (by kernel_rfl)
 f171 := fs func98 (by kernel_rfl)
 f172 := fs func146 (by kernel_rfl)
 f205 := fs func196 (by kernel_rfl)
 f243 := fs func133 (by kernel_rfl)
 f244 := fs func161 (by kernel_rfl)
 f245 := fs func162 (by kernel_rfl)
 f246 := fs func153 (by kernel_rfl)
 f247 := fs func177 (by kernel_rfl)
 f279 := fs func178 (by kernel_rfl)
 f280 := fs func179 (by kernel_rfl)
 f281 := fs func180 (by kernel_rfl)
 f282 := fs func181 (by kernel_rfl)
 f283 := fs func167 (by kernel_rfl)
 f284 := fs func168 (by kernel_rfl)
 f285 := fs func169 (by kernel_rfl)
 f286 := fs func170 (by kernel_rfl)
 f287 := fs func194 (by kernel_rfl)
 f316 := fs func195 (by kernel_rfl)
 f317 := fs func183 (by kernel_rfl)
 f318 := fs func185 (by kernel_rfl)
 f319 := fs func186 (by kernel_rfl)
 f320 := fs func187 (by kernel_rfl)
 f321 := fs func208 (by kernel_rfl)
 f322 := fs func209 (by kernel_rfl)
 f337 := fs func197 (by kernel_rfl)
 f338 := fs func198 (by kernel_rfl)
 t0 := underlying0
 a0 := isAgg0
 z0 := sizeOf0
 v0 := zeroValue0
 t2 := underlying2
 a2 := isAgg2
 z2 := sizeOf2
 v2 := zeroValue2
 t3 := underlying3
 a3 := isAgg3
 z3 := sizeOf3
 v3 := zeroValue3
 t4 := underlying4
 a4 := isAgg4
 z4 := sizeOf4
 v4 := zeroValue4
 t5 := underlying5
 a5 := isAgg5
 z5 := sizeOf5
 v5 := zeroValue5
 t9 := underlying9
 a9 := isAgg9
 z9 := sizeOf9
 v9 := zeroValue9
 t20 := underlying20
 a20 := isAgg20
 z20 := sizeOf20
 v20 := zeroValue20
 t21 := underlying21
 a21 := isAgg21
 z21 := sizeOf21
 v21 := zeroValue21
 t37 := underlying71
 a37 := isAgg71
 z37 := sizeOf71
 v37 := zeroValue71
 t46 := underlying79
 a46 := isAgg79
 z46 := sizeOf79
 v46 := zeroValue79
 t51 := underlying175
 a51 := isAgg175
 z51 := sizeOf175
 v51 := zeroValue175
 t53 := underlying204
 a53 := isAgg204
 z53 := sizeOf204
 v53 := zeroValue204
 t75 := underlying75
 a75 := isAgg75
 z75 := sizeOf75
 v75 := zeroValue75
 t76 := underlying77
 a76 := isAgg77
 z76 := sizeOf77
 v76 := zeroValue77
 t85 := underlying228
 a85 := isAgg228
 z85 := sizeOf228
 v85 := zeroValue228
 t127 := underlying117
 a127 := isAgg117
 z127 := sizeOf117
 v127 := zeroValue117
 t143 := underlying270
 a143 := isAgg270
 z143 := sizeOf270
 v143 := zeroValue270
 t145 := underlying272
 a145 := isAgg272
 z145 := sizeOf272
 v145 := zeroValue272
 t167 := underlying227
 a167 := isAgg227
 z167 := sizeOf227
 v167 := zeroValue227
 t168 := underlying230
 a168 := isAgg230
 z168 := sizeOf230
 v168 := zeroValue230
 t171 := underlying203
 a171 := isAgg203
 z171 := sizeOf203
 v171 := zeroValue203
 t173 := underlying207
 a173 := isAgg207
 z173 := sizeOf207
 v173 := zeroValue207
 t175 := underlying253
 a175 := isAgg253
 z175 := sizeOf253
 v175 := zeroValue253
 t210 := underlying256
 a210 := isAgg256
 z210 := sizeOf256
 v210 := zeroValue256
 t212 := underlying235
 a212 := isAgg235
 z212 := sizeOf235
 v212 := zeroValue235
 t213 := underlying236
 a213 := isAgg236
 z213 := sizeOf236
 t232 := underlying273
 a232 := isAgg273
 z232 := sizeOf273
 v232 := zeroValue273
 t233 := underlying274
 a233 := isAgg274
 z233 := sizeOf274
 v233 := zeroValue274
 g15 := by kernel_rfl
 g16 := by kernel_rfl
 g17 := by kernel_rfl
 g18 := by kernel_rfl
 g19 := by kernel_rfl
 t80 := underlying80
 a80 := isAgg80
 z80 := sizeOf80
 v80 := zeroValue80
 i0 := by kernel_rfl
 i2 := by kernel_rfl
 i3 := by kernel_rfl
 i4 := by kernel_rfl
 i5 := by kernel_rfl
 i9 := by kernel_rfl
 i20 := by kernel_rfl
 i21 := by kernel_rfl
 i37 := by kernel_rfl
 i46 := by kernel_rfl
 i51 := by kernel_rfl
 i53 := by kernel_rfl
 i75 := by kernel_rfl
 i76 := by kernel_rfl
 i80 := by kernel_rfl
 i85 := by kernel_rfl
 i127 := by kernel_rfl
 i143 := by kernel_rfl
 i145 := by kernel_rfl
 i167 := by kernel_rfl
 i168 := by kernel_rfl
 i171 := by kernel_rfl
 i173 := by kernel_rfl
 i175 := by kernel_rfl
 i210 := by kernel_rfl
 i212 := by kernel_rfl
 i232 := by kernel_rfl
 i233 := by kernel_rfl
 m15 := by kernel_rfl
 m16 := by kernel_rfl
 m17 := by kernel_rfl
 m18 := by kernel_rfl
 m19 := by kernel_rfl
 c0 := by kernel_rfl
 c2 := by kernel_rfl
 c3 := by kernel_rfl
 c4 := by kernel_rfl
 c5 := by kernel_rfl
 c9 := by kernel_rfl
 c20 := by kernel_rfl
 c21 := by kernel_rfl
 c37 := by kernel_rfl
 c46 := by kernel_rfl
 c51 := by kernel_rfl
 c53 := by kernel_rfl
 c75 := by kernel_rfl
 c76 := by kernel_rfl
 c80 := by kernel_rfl
 c85 := by kernel_rfl
 c127 := by kernel_rfl
 c143 := by kernel_rfl
 c145 := by kernel_rfl
 c167 := by kernel_rfl
 c168 := by kernel_rfl
 c171 := by kernel_rfl
 c173 := by kernel_rfl
 c175 := by kernel_rfl
 c210 := by kernel_rfl
 c212 := by kernel_rfl
 c213 := by kernel_rfl
 c232 := by kernel_rfl
 c233 := by kernel_rfl }
open Go.RowKit in
theorem Tryz.strconv_Atoi_ok (s : ByteArray) (hmax : s.size ≤ 9223372036854775806) (v : Int) (h : Lib.atoiAll s.data.toList = .ok v) (w : World) :
  Calls prog 146 #[.string s] w fun e w' => e = .returned (.tuple #[.int .i64 v, .nilIface]) ∧ (w' = w ∨ ∃ t, w' = Lib.bytesWorld w 5 t) := Any.strconv_Atoi_ok Tryz.laysC172 s hmax v h w
open Go.RowKit in
theorem Tryz.strconv_Atoi_syntax_var (s : ByteArray) (hlim : s.size ≤ 281474976710656) (h : Lib.atoiAll s.data.toList = .syntax) (tp : TypeId) (p : Value) (w : World) (hvar : w.var? prog "strconv.ErrSyntax" = some #[.iface tp p]) :
  Calls prog 146 #[.string s] w fun e w' => ∃ N, e = .returned (.tuple #[.int .i64 0, .iface 230 (.pointer (some ⟨N, 0, none⟩))]) ∧ w.heap.size ≤ N ∧ w'.heap[N]? = some (.cells #[.string ⟨#[65, 116, 111, 105]⟩, .string s, .iface tp p] 256 (0, 0)) ∧ Below w.heap.size w w' := Any.strconv_Atoi_syntax_var Tryz.laysC172 s hlim h tp p w hvar
open Go.RowKit in
theorem Tryz.strconv_Atoi_range_var (s : ByteArray) (hlim : s.size ≤ 281474976710656) (h : Lib.atoiAll s.data.toList = .range) (tp : TypeId) (p : Value) (w : World) (hvar : w.var? prog "strconv.ErrRange" = some #[.iface tp p]) :
  Calls prog 146 #[.string s] w fun e w' => ∃ N, e = .returned (.tuple #[.int .i64 (Lib.atoiSat s.data.toList), .iface 230 (.pointer (some ⟨N, 0, none⟩))]) ∧ w.heap.size ≤ N ∧ w'.heap[N]? = some (.cells #[.string ⟨#[65, 116, 111, 105]⟩, .string s, .iface tp p] 256 (0, 0)) ∧ Below w.heap.size w w' := Any.strconv_Atoi_range_var Tryz.laysC172 s hlim h tp p w hvar
def Tryz.lays144_ren : Go.Shelf.Ren := ⟨fun | 144 => 107 | 143 => 105 | 219 => 106 | 217 => 137 | 225 => 138 | 224 => 139 | 267 => 140 | 266 => 155 | 314 => 156 | n => n, fun | 9 => 9 | 4 => 4 | 3 => 3 | 5 => 5 | 46 => 79 | 146 => 196 | 51 => 175 | n => n, fun | 1 => 0 | n => n⟩
theorem Tryz.lays144 : Go.Proofs.Lays.n144 prog Tryz.lays144_ren := {
 mixed := by kernel_rfl
 f143 := fs func105 (by kernel_rfl)
 f144 := fs func107 (by kernel_rfl)
 f217 := fs func137 (by kernel_rfl)
 f219 := fs func106 (by kernel_rfl)
 f224 := fs func139 (by kernel_rfl)
 f225 := fs func138 (by kernel_rfl)
 f266 := fs func155 (by kernel_rfl)
 f267 := fs func140 (by kernel_rfl)
 f314 := fs func156 (by kernel_rfl)
 t3 := underlying3
 a3 := isAgg3
 z3 := sizeOf3
 v3 := zeroValue3
 t4 := underlying4
 a4 := isAgg4
 z4 := sizeOf4
 v4 := zeroValue4
 t5 := underlying5
 a5 := isAgg5
 z5 := sizeOf5
 v5 := zeroValue5
 t9 := underlying9
 a9 := isAgg9
 z9 := sizeOf9
 v9 := zeroValue9
 t46 := underlying79
 a46 := isAgg79
 z46 := sizeOf79
 v46 := zeroValue79
 t51 := underlying175
 a51 := isAgg175
 z51 := sizeOf175
 v51 := zeroValue175
 t146 := underlying196
 a146 := isAgg196
 z146 := sizeOf196
 v146 := zeroValue196
 g1 := by kernel_rfl }
open Go.RowKit Go.Lib in
theorem Tryz.strings_Contains (s sub : ByteArray) (m : Int) (w : World) (hs : s.size < 4294967281) (hm : w.cell? ⟨0, 0, none⟩ = some (.int .i64 m)) :
  Calls prog 107 #[.string s, .string sub] w fun e w' => e = .returned (.bool (Lib.contains s.data.toList sub.data.toList)) ∧ w' = w := Any.strings_Contains Tryz.lays144 s sub m w hs hm
def Tryz.lays145_ren : Go.Shelf.Ren := ⟨fun | 145 => 27 | 220 => 61 | 219 => 106 | 217 => 137 | 225 => 138 | 224 => 139 | 267 => 140 | 266 => 155 | 314 => 156 | n => n, fun | 9 => 9 | 4 => 4 | 59 => 59 | 3 => 3 | 5 => 5 | 46 => 79 | 146 => 196 | 51 => 175 | n => n, fun | 1 => 0 | n => n⟩
theorem Tryz.lays145 : Go.Proofs.Lays.n145 prog Tryz.lays145_ren := {
 mixed := by kernel_rfl
 f145 := fs func27 (by kernel_rfl)
 f217 := fs func137 (by kernel_rfl)
 f219 := fs func106 (by kernel_rfl)
 f220 := fs func61 (by kernel_rfl)
 f224 := fs func139 (by kernel_rfl)
 f225 := fs func138 (by kernel_rfl)
 f266 := fs func155 (by kernel_rfl)
 f267 := fs func140 (by kernel_rfl)
 f314 := fs func156 (by kernel_rfl)
 t3 := underlying3
 a3 := isAgg3
 z3 := sizeOf3
 v3 := zeroValue3
 t4 := underlying4
 a4 := isAgg4
 z4 := sizeOf4
 v4 := zeroValue4
 t5 := underlying5
 a5 := isAgg5
 z5 := sizeOf5
 v5 := zeroValue5
 t9 := underlying9
 a9 := isAgg9
 z9 := sizeOf9
 v9 := zeroValue9
 t46 := underlying79
 a46 := isAgg79
 z46 := sizeOf79
 v46 := zeroValue79
 t51 := underlying175
 a51 := isAgg175
 z51 := sizeOf175
 v51 := zeroValue175
 t59 := underlying59
 a59 := isAgg59
 z59 := sizeOf59
 v59 := zeroValue59
 t146 := underlying196
 a146 := isAgg196
 z146 := sizeOf196
 v146 := zeroValue196
 g1 := by kernel_rfl }
open Go.RowKit Go.Lib in
theorem Tryz.strings_Cut (s sep : ByteArray) (m : Int) (w : World) (hs : s.size < 4294967281) (hm : w.cell? ⟨0, 0, none⟩ = some (.int .i64 m)) :
  Calls prog 27 #[.string s, .string sep] w fun e w' => e = .returned (.tuple #[.string ⟨(Lib.cut s.data.toList sep.data.toList).1.toArray⟩, .string ⟨(Lib.cut s.data.toList sep.data.toList).2.1.toArray⟩, .bool (Lib.cut s.data.toList sep.data.toList).2.2]) ∧ ∃ n, w' = w.drewN n := Any.strings_Cut Tryz.lays145 s sep m w hs hm
def Tryz.lays99_ren : Go.Shelf.Ren := ⟨fun | 99 => 43 | 206 => 81 | n => n, fun | 9 => 9 | 4 => 4 | 3 => 3 | n => n, fun | n => n⟩
theorem Tryz.lays99 : Go.Proofs.Lays.n99 prog Tryz.lays99_ren := {
 mixed := by kernel_rfl
 f99 := fs func43 (by kernel_rfl)
 f206 := fs func81 (by kernel_rfl)
 t3 := underlying3
 a3 := isAgg3
 z3 := sizeOf3
 v3 := zeroValue3
 t4 := underlying4
 a4 := isAgg4
 z4 := sizeOf4
 v4 := zeroValue4
 t9 := underlying9
 a9 := isAgg9
 z9 := sizeOf9
 v9 := zeroValue9 }
open Go.RowKit Go.Lib in
theorem Tryz.strings_HasPrefix (s p : ByteArray) (w : World) :
  Calls prog 43 #[.string s, .string p] w fun e w' => e = .returned (.bool (Lib.hasPrefix s.data.toList p.data.toList)) ∧ w' = w := Any.strings_HasPrefix Tryz.lays99 s p w
def Tryz.lays146_ren : Go.Shelf.Ren := ⟨fun | 146 => 26 | 221 => 60 | 268 => 103 | 138 => 104 | 143 => 105 | 195 => 134 | 197 => 135 | 218 => 136 | 219 => 106 | 260 => 154 | 217 => 137 | 225 => 138 | 224 => 139 | 267 => 140 | 266 => 155 | 314 => 156 | n => n, fun | 9 => 9 | 31 => 57 | 3 => 3 | 4 => 4 | 0 => 0 | 105 => 169 | 21 => 21 | 5 => 5 | 46 => 79 | 119 => 209 | 139 => 212 | 138 => 211 | 146 => 196 | 51 => 175 | n => n, fun | 1 => 0 | 3 => 1 | 4 => 2 | n => n⟩
theorem Tryz.lays146 : Go.Proofs.Lays.n146 prog Tryz.lays146_ren := {
 mixed := by kernel_rfl
 f138 := fs func104 (by kernel_rfl)
 f143 := fs func105 (by kernel_rfl)
 f146 := fs func26 (by kernel_rfl)
 f195 := fs func134 (by kernel_rfl)
 f197 := fs func135 (by kernel_rfl)
 f217 := fs func137 (by kernel_rfl)
 f218 := fs func136 (by kernel_rfl)
 f219 := fs func106 (by kernel_rfl)
 f221 := fs func60 (by kernel_rfl)
 f224 := fs func139 (by kernel_rfl)
 f225 := fs func138 (by kernel_rfl)
 f260 := fs func154 (by kernel_rfl)
 f266 := fs func155 (by kernel_rfl)
 f267 := fs func140 (by kernel_rfl)
 f268 := fs func103 (by kernel_rfl)
 f314 := fs func156 (by kernel_rfl)
 t0 := underlying0
 a0 := isAgg0
 z0 := sizeOf0
 v0 := zeroValue0
 t3 := underlying3
 a3 := isAgg3
 z3 := sizeOf3
 v3 := zeroValue3
 t4 := underlying4
 a4 := isAgg4
 z4 := sizeOf4
 v4 := zeroValue4
 t5 := underlying5
 a5 := isAgg5
 z5 := sizeOf5
 v5 := zeroValue5
 t9 := underlying9
 a9 := isAgg9
 z9 := sizeOf9
 v9 := zeroValue9
 t21 := underlying21
 a21 := isAgg21
 z21 := sizeOf21
 v21 := zeroValue21
 t31 := underlying57
 a31 := isAgg57
 z31 := sizeOf57
 v31 := zeroValue57
 t46 := underlying79
 a46 := isAgg79
 z46 := sizeOf79
 v46 := zeroValue79
 t51 := underlying175
 a51 := isAgg175
 z51 := sizeOf175
 v51 := zeroValue175
 t105 := underlying169
 a105 := isAgg169
 z105 := sizeOf169
 v105 := zeroValue169
 t119 := underlying209
 a119 := isAgg209
 z119 := sizeOf209
 t138 := underlying211
 a138 := isAgg211
 z138 := sizeOf211
 v138 := zeroValue211
 t139 := underlying212
 a139 := isAgg212
 z139 := sizeOf212
 v139 := zeroValue212
 t146 := underlying196
 a146 := isAgg196
 z146 := sizeOf196
 v146 := zeroValue196
 g1 := by kernel_rfl
 g3 := by kernel_rfl
 g4 := by kernel_rfl }
open Go.RowKit Go.Lib in
theorem Tryz.strings_Split (s sep : ByteArray) (m : Int) (w : World) (hs : s.size < 4294967281) (hm : w.cell? ⟨0, 0, none⟩ = some (.int .i64 m)) (h1 : 1 ≤ sep.size) :
  Calls prog 26 #[.string s, .string sep] w fun e w' =>
   e = .returned (.slice (some ⟨w.heap.size, 0, none⟩) (Lib.countB s sep + 1) (Lib.countB s sep + 1)) ∧ w' = w.alloc (.cells ((Lib.splitB sep 0 (Lib.countB s sep) s).map Value.string).toArray 9) := Any.strings_Split Tryz.lays146 (by kernel_rfl) s sep m w hs hm h1
end Go.Proofs
