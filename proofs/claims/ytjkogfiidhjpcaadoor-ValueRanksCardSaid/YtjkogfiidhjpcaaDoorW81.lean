/- YtjkogfiidhjpcaaDoor: walks, part 81: strings of the library: utf8.ValidString and strings.Compare by the shelf's contracts (their layings are written by the kit's lay-plain.mjs). -/
import Derived.Test.YtjkogfiidhjpcaaDoorKp
import Derived.Test.YtjkogfiidhjpcaaDoorKs
import Derived.Shelf.Unicode.ValidAny
import Derived.Shelf.Small.Strs
namespace Go.Proofs.YtjkogfiidhjpcaaDoor
open Go Go.K Go.Shelf
set_option maxRecDepth 100000
set_option linter.unusedVariables false
set_option linter.unusedSimpArgs false
def laysValid_ren : Go.Shelf.Ren := ⟨fun | 196 => 68 | 259 => 89 | n => n, fun | 9 => 9 | 4 => 4 | 3 => 3 | 5 => 5 | 12 => 12 | 119 => 129 | 0 => 0 | 46 => 104 | 139 => 132 | 138 => 131 | 53 => 36 | n => n, fun | 3 => 0 | 4 => 1 | n => n⟩
theorem laysValid : Go.Proofs.Lays.n196 Tryd.prog laysValid_ren := {
  mixed := by kernel_rfl
  f196 := Tryd.func68.trans (congrArg some (by kernel_rfl))
  f259 := Tryd.func89.trans (congrArg some (by kernel_rfl))
  t0 := Tryd.underlying0
  a0 := Tryd.isAgg0
  z0 := Tryd.sizeOf0
  v0 := Tryd.zeroValue0
  t3 := Tryd.underlying3
  a3 := Tryd.isAgg3
  z3 := Tryd.sizeOf3
  v3 := Tryd.zeroValue3
  t4 := Tryd.underlying4
  a4 := Tryd.isAgg4
  z4 := Tryd.sizeOf4
  v4 := Tryd.zeroValue4
  t5 := Tryd.underlying5
  a5 := Tryd.isAgg5
  z5 := Tryd.sizeOf5
  v5 := Tryd.zeroValue5
  t9 := Tryd.underlying9
  a9 := Tryd.isAgg9
  z9 := Tryd.sizeOf9
  v9 := Tryd.zeroValue9
  t12 := Tryd.underlying12
  a12 := Tryd.isAgg12
  z12 := Tryd.sizeOf12
  v12 := Tryd.zeroValue12
  t46 := Tryd.underlying104
  a46 := Tryd.isAgg104
  z46 := Tryd.sizeOf104
  v46 := Tryd.zeroValue104
  t53 := Tryd.underlying36
  a53 := Tryd.isAgg36
  z53 := Tryd.sizeOf36
  v53 := Tryd.zeroValue36
  t119 := Tryd.underlying129
  a119 := Tryd.isAgg129
  z119 := Tryd.sizeOf129
  t138 := Tryd.underlying131
  a138 := Tryd.isAgg131
  z138 := Tryd.sizeOf131
  v138 := Tryd.zeroValue131
  t139 := Tryd.underlying132
  a139 := Tryd.isAgg132
  z139 := Tryd.sizeOf132
  v139 := Tryd.zeroValue132
  g3 := by kernel_rfl
  g4 := by kernel_rfl }
def laysComp_ren : Go.Shelf.Ren := ⟨fun | 106 => 49 | 213 => 72 | 265 => 91 | n => n, fun | 9 => 9 | 3 => 3 | n => n, fun | n => n⟩
theorem laysComp : Go.Proofs.Lays.n106 Tryd.prog laysComp_ren := {
  mixed := by kernel_rfl
  f106 := Tryd.func49.trans (congrArg some (by kernel_rfl))
  f213 := Tryd.func72.trans (congrArg some (by kernel_rfl))
  f265 := Tryd.func91.trans (congrArg some (by kernel_rfl))
  t3 := Tryd.underlying3
  a3 := Tryd.isAgg3
  z3 := Tryd.sizeOf3
  v3 := Tryd.zeroValue3
  t9 := Tryd.underlying9
  a9 := Tryd.isAgg9
  z9 := Tryd.sizeOf9
  v9 := Tryd.zeroValue9 }
/-- utf8's tables lie where the library has laid them. -/
def TabsAt (w : World) : Prop := Lib.Utf8Tabs (laysValid_ren.g 3) (laysValid_ren.g 4) w
theorem valid_walk (w : World) (hT : TabsAt w) (l : List UInt8) (hl : l.length ≤ 9223372036854775807) : Calls Tryd.prog 68 #[str l] w (Rets w (Is (.bool (Lib.validD l)))) := by
  have h := Any.utf8_ValidString laysValid ⟨l.toArray⟩ w (by simpa [ByteArray.size] using hl) hT
  refine h.mono ?_
  rintro e w' ⟨rfl, hb⟩
  exact ⟨_, rfl, Sy.of_below hb, rfl⟩
theorem compare_walk (w : World) (l m : List UInt8) : Calls Tryd.prog 49 #[str l, str m] w (Rets w (Is (i64 (Lib.compareBytes l m)))) := by
  have h := Any.strings_Compare laysComp ⟨l.toArray⟩ ⟨m.toArray⟩ w
  refine h.mono ?_
  rintro e w' ⟨rfl, rfl⟩
  exact ⟨_, rfl, Sy.refl _, rfl⟩
end Go.Proofs.YtjkogfiidhjpcaaDoor
