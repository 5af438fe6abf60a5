/-
  The contracts of the library that this seat leans on: strconv_ParseUint_10_at32_ok, strconv_ParseUint_10_at32_syntax_var. Conditions: those typed at each theorem.
-/
import Derived.Shelf.Strings.Builder1
import Derived.Shelf.Small.Strs
import Derived.Shelf.Strings.BuilderF
import Derived.Shelf.Strings.BuilderK
import Derived.Shelf.Utf8.RuneCount
import Derived.Shelf.Strconv.Itoa0
import Derived.Shelf.Strconv.Itoa1
import Derived.Shelf.LaysM
import Derived.Shelf.Strconv.Itoa2
import Derived.Shelf.Strconv.Itoa3
import Derived.Shelf.Strconv.Itoa4
import Derived.Shelf.Strconv.ParseIntEmpty
import Derived.Shelf.Strconv.Clone
import Derived.Shelf.Strconv.SyntaxError
import Derived.Shelf.LaysC
import Derived.Shelf.Strconv.ToError
import Derived.Shelf.Strconv.Lower
import Derived.Shelf.Strconv.ParseUint10
import Derived.Shelf.Strconv.ParseUint10Empty
import Derived.Shelf.Strconv.ParseUint10Any
import Derived.Shelf.Strconv.ParseInt10
import Derived.Shelf.Strconv.RangeError
import Derived.Shelf.Strconv.ToErrorRange
import Derived.Shelf.Strconv.ParseUintEmpty
import Derived.Shelf.Strconv.ParseUint10b64
import Derived.Shelf.Strconv.ParseUint10b32
import Derived.Shelf.Strconv.ParseUint10b16
import Derived.Shelf.Strconv.ParseUint10b8
import Derived.Shelf.Strconv.ParseUint10At
import Derived.Shelf.Strconv.ParseInt10At64
import Derived.Shelf.Strconv.ParseInt10At32
import Derived.Shelf.Strconv.ParseInt10At16
import Derived.Shelf.Strconv.ParseInt10At8
import Derived.Shelf.Strconv.ParseInt10All
import Derived.Shelf.Strconv.ParseIntPublic10
import Derived.Shelf.Strconv.ErrVarParseInt
import Derived.Ground.MpProg
import Derived.Shelf.Pu.ParseUintPublic10
import Derived.Shelf.Pu.ErrVarParseUint
import Derived.Shelf.Strings.Search1
import Derived.Shelf.Strings.Search2
import Derived.Shelf.Strings.Search3
import Derived.Shelf.Strings.Cut
import Derived.Shelf.Strings.Count
import Derived.Shelf.Strings.Shaped
import Derived.Shelf.Strings.Prefix
import Derived.Shelf.Strings.Split
import Derived.Shelf.Strings.SplitShaped
import Derived.Shelf.Unicode.Decode
import Derived.Shelf.Strings.RuneCount
import Derived.Shelf.Strings.Explode
import Derived.Shelf.Unicode.DecodeSlow
import Derived.Shelf.Unicode.DecodeAny
import Derived.Shelf.Strings.BuilderCap
import Derived.Test.YtpapphhbogngcaaDoorProg
namespace Go.Proofs
open Go.Shelf
def Tryd.laysPu14_ren : Go.Shelf.Ren := ⟨fun | 14 => 55 | 16 => 98 | 17 => 99 | 19 => 129 | 20 => 130 | 21 => 131 | 22 => 132 | 23 => 133 | 24 => 134 | 25 => 151 | 27 => 153 | 26 => 152 | 28 => 170 | 29 => 128 | 30 => 147 | 31 => 148 | 32 => 149 | 33 => 150 | 35 => 166 | 34 => 165 | 36 => 167 | 37 => 168 | 38 => 169 | 39 => 176 | 40 => 177 | n => n, fun | 9 => 9 | 3 => 3 | 22 => 94 | 24 => 84 | 25 => 95 | 4 => 4 | 34 => 162 | 5 => 5 | 36 => 164 | 37 => 50 | 0 => 0 | 39 => 165 | 21 => 21 | 44 => 183 | 47 => 138 | 50 => 196 | 48 => 194 | 2 => 2 | 52 => 176 | 55 => 179 | 59 => 189 | 60 => 190 | 20 => 20 | 61 => 191 | 65 => 203 | 66 => 204 | 67 => 88 | n => n, fun | 0 => 0 | 1 => 1 | 2 => 3 | 3 => 4 | 4 => 5 | n => n⟩
theorem Tryd.laysPu14 : Go.Proofs.LaysPu.n14 Tryd.prog Tryd.laysPu14_ren := {
  mixed := by kernel_rfl
  f14 := Tryd.func55.trans (congrArg some (by kernel_rfl))
  f16 := Tryd.func98.trans (congrArg some (by kernel_rfl))
  f17 := Tryd.func99.trans (congrArg some (by kernel_rfl))
  f19 := Tryd.func129.trans (congrArg some (by kernel_rfl))
  f20 := Tryd.func130.trans (congrArg some (by kernel_rfl))
  f21 := Tryd.func131.trans (congrArg some (by kernel_rfl))
  f22 := Tryd.func132.trans (congrArg some (by kernel_rfl))
  f23 := Tryd.func133.trans (congrArg some (by kernel_rfl))
  f24 := Tryd.func134.trans (congrArg some (by kernel_rfl))
  f25 := Tryd.func151.trans (congrArg some (by kernel_rfl))
  f26 := Tryd.func152.trans (congrArg some (by kernel_rfl))
  f27 := Tryd.func153.trans (congrArg some (by kernel_rfl))
  f28 := Tryd.func170.trans (congrArg some (by kernel_rfl))
  f29 := Tryd.func128.trans (congrArg some (by kernel_rfl))
  f30 := Tryd.func147.trans (congrArg some (by kernel_rfl))
  f31 := Tryd.func148.trans (congrArg some (by kernel_rfl))
  f32 := Tryd.func149.trans (congrArg some (by kernel_rfl))
  f33 := Tryd.func150.trans (congrArg some (by kernel_rfl))
  f34 := Tryd.func165.trans (congrArg some (by kernel_rfl))
  f35 := Tryd.func166.trans (congrArg some (by kernel_rfl))
  f36 := Tryd.func167.trans (congrArg some (by kernel_rfl))
  f37 := Tryd.func168.trans (congrArg some (by kernel_rfl))
  f38 := Tryd.func169.trans (congrArg some (by kernel_rfl))
  f39 := Tryd.func176.trans (congrArg some (by kernel_rfl))
  f40 := Tryd.func177.trans (congrArg some (by kernel_rfl))
  t0 := Tryd.underlying0
  a0 := Tryd.isAgg0
  z0 := Tryd.sizeOf0
  v0 := Tryd.zeroValue0
  i0 := by kernel_rfl
  t2 := Tryd.underlying2
  a2 := Tryd.isAgg2
  z2 := Tryd.sizeOf2
  v2 := Tryd.zeroValue2
  i2 := by kernel_rfl
  t3 := Tryd.underlying3
  a3 := Tryd.isAgg3
  z3 := Tryd.sizeOf3
  v3 := Tryd.zeroValue3
  i3 := by kernel_rfl
  t4 := Tryd.underlying4
  a4 := Tryd.isAgg4
  z4 := Tryd.sizeOf4
  v4 := Tryd.zeroValue4
  i4 := by kernel_rfl
  t5 := Tryd.underlying5
  a5 := Tryd.isAgg5
  z5 := Tryd.sizeOf5
  v5 := Tryd.zeroValue5
  i5 := by kernel_rfl
  t9 := Tryd.underlying9
  a9 := Tryd.isAgg9
  z9 := Tryd.sizeOf9
  v9 := Tryd.zeroValue9
  i9 := by kernel_rfl
  t20 := Tryd.underlying20
  a20 := Tryd.isAgg20
  z20 := Tryd.sizeOf20
  v20 := Tryd.zeroValue20
  i20 := by kernel_rfl
  t21 := Tryd.underlying21
  a21 := Tryd.isAgg21
  z21 := Tryd.sizeOf21
  v21 := Tryd.zeroValue21
  i21 := by kernel_rfl
  t22 := Tryd.underlying94
  a22 := Tryd.isAgg94
  z22 := Tryd.sizeOf94
  v22 := Tryd.zeroValue94
  i22 := by kernel_rfl
  t24 := Tryd.underlying84
  a24 := Tryd.isAgg84
  z24 := Tryd.sizeOf84
  v24 := Tryd.zeroValue84
  i24 := by kernel_rfl
  t25 := Tryd.underlying95
  a25 := Tryd.isAgg95
  z25 := Tryd.sizeOf95
  v25 := Tryd.zeroValue95
  i25 := by kernel_rfl
  t34 := Tryd.underlying162
  a34 := Tryd.isAgg162
  z34 := Tryd.sizeOf162
  v34 := Tryd.zeroValue162
  i34 := by kernel_rfl
  c34 := by kernel_rfl
  t36 := Tryd.underlying164
  a36 := Tryd.isAgg164
  z36 := Tryd.sizeOf164
  v36 := Tryd.zeroValue164
  i36 := by kernel_rfl
  t37 := Tryd.underlying50
  a37 := Tryd.isAgg50
  z37 := Tryd.sizeOf50
  v37 := Tryd.zeroValue50
  i37 := by kernel_rfl
  t39 := Tryd.underlying165
  a39 := Tryd.isAgg165
  z39 := Tryd.sizeOf165
  v39 := Tryd.zeroValue165
  i39 := by kernel_rfl
  t44 := Tryd.underlying183
  a44 := Tryd.isAgg183
  z44 := Tryd.sizeOf183
  v44 := Tryd.zeroValue183
  i44 := by kernel_rfl
  t47 := Tryd.underlying138
  a47 := Tryd.isAgg138
  z47 := Tryd.sizeOf138
  v47 := Tryd.zeroValue138
  i47 := by kernel_rfl
  t48 := Tryd.underlying194
  a48 := Tryd.isAgg194
  z48 := Tryd.sizeOf194
  v48 := Tryd.zeroValue194
  i48 := by kernel_rfl
  t50 := Tryd.underlying196
  a50 := Tryd.isAgg196
  z50 := Tryd.sizeOf196
  v50 := Tryd.zeroValue196
  i50 := by kernel_rfl
  t52 := Tryd.underlying176
  a52 := Tryd.isAgg176
  z52 := Tryd.sizeOf176
  v52 := Tryd.zeroValue176
  i52 := by kernel_rfl
  t55 := Tryd.underlying179
  a55 := Tryd.isAgg179
  z55 := Tryd.sizeOf179
  v55 := Tryd.zeroValue179
  i55 := by kernel_rfl
  t59 := Tryd.underlying189
  a59 := Tryd.isAgg189
  z59 := Tryd.sizeOf189
  v59 := Tryd.zeroValue189
  i59 := by kernel_rfl
  t60 := Tryd.underlying190
  a60 := Tryd.isAgg190
  z60 := Tryd.sizeOf190
  v60 := Tryd.zeroValue190
  i60 := by kernel_rfl
  t61 := Tryd.underlying191
  a61 := Tryd.isAgg191
  z61 := Tryd.sizeOf191
  t65 := Tryd.underlying203
  a65 := Tryd.isAgg203
  z65 := Tryd.sizeOf203
  v65 := Tryd.zeroValue203
  i65 := by kernel_rfl
  t66 := Tryd.underlying204
  a66 := Tryd.isAgg204
  z66 := Tryd.sizeOf204
  v66 := Tryd.zeroValue204
  i66 := by kernel_rfl
  t67 := Tryd.underlying88
  a67 := Tryd.isAgg88
  z67 := Tryd.sizeOf88
  v67 := Tryd.zeroValue88
  i67 := by kernel_rfl
  g0 := by kernel_rfl
  m0 := by kernel_rfl
  g1 := by kernel_rfl
  m1 := by kernel_rfl
  g2 := by kernel_rfl
  m2 := by kernel_rfl
  g3 := by kernel_rfl
  m3 := by kernel_rfl
  g4 := by kernel_rfl
  m4 := by kernel_rfl }
open Go.RowKit in
theorem Tryd.strconv_ParseUint_10_at32_ok (s : ByteArray) (hmax : s.size ≤ 9223372036854775806) (u : Nat) (h : Lib.parseUintB 32 s.data.toList = .ok u) (w : World) :
    Calls Tryd.prog 55 #[.string s, .int .i64 10, .int .i64 32] w fun e w' => e = .returned (.tuple #[.int .u64 u, .nilIface]) ∧ (w' = w ∨ w' = Lib.bytesWorld w 5 s) := Any.strconv_ParseUint_10_at32_ok Tryd.laysPu14 s hmax u h w
open Go.RowKit in
theorem Tryd.strconv_ParseUint_10_at32_syntax_var (s : ByteArray) (hlim : s.size ≤ 281474976710656) (h : Lib.parseUintB 32 s.data.toList = .«syntax») (tp : TypeId) (p : Value) (w : World) (hvar : w.var? Tryd.prog "strconv.ErrSyntax" = some #[.iface tp p]) :
    Calls Tryd.prog 55 #[.string s, .int .i64 10, .int .i64 32] w fun e w' => ∃ N, e = .returned (.tuple #[.int .u64 0, .iface 165 (.pointer (some ⟨N, 0, none⟩))]) ∧ w.heap.size ≤ N ∧ w'.heap[N]? = some (.cells #[.string ⟨#[80, 97, 114, 115, 101, 85, 105, 110, 116]⟩, .string s, .iface tp p] 183 (0, 0)) ∧ Below w.heap.size w w' := Any.strconv_ParseUint_10_at32_syntax_var Tryd.laysPu14 s hlim h tp p w hvar
end Go.Proofs
