/- Facts on the program of seat YtjkogfiidhjpcaaDoor, for the walks: written by program (genfacts.py) off the translation's type table. -/
import Derived.Test.YtjkogfiidhjpcaaDoorProg
import Derived.Test.YtjkogfiidhjpcaaDoorKg
import Derived.KernelRfl

namespace Go.Proofs.YtjkogfiidhjpcaaDoor
open Go Go.K
variable {K : Value → Prop}
theorem mixed : Tryd.prog.follows .mixedOrders = true := by kernel_rfl
@[push_cast] theorem fa_24_0 (b o : Nat) : PureX Tryd.prog (Instr.fieldAt 24 (.pointer (some ⟨b, o, none⟩)) 0) (tag K) = K (.pointer (some ⟨b, o, none⟩)) := px (fun w => by kernel_rfl) K
@[push_cast] theorem fa_24_1 (b o : Nat) : PureX Tryd.prog (Instr.fieldAt 24 (.pointer (some ⟨b, o, none⟩)) 1) (tag K) = K (.pointer (some ⟨b, o + 1, none⟩)) := px (fun w => by kernel_rfl) K
@[push_cast] theorem fa_24_2 (b o : Nat) : PureX Tryd.prog (Instr.fieldAt 24 (.pointer (some ⟨b, o, none⟩)) 2) (tag K) = K (.pointer (some ⟨b, o + 2, none⟩)) := px (fun w => by kernel_rfl) K
@[push_cast] theorem fa_24_3 (b o : Nat) : PureX Tryd.prog (Instr.fieldAt 24 (.pointer (some ⟨b, o, none⟩)) 3) (tag K) = K (.pointer (some ⟨b, o + 3, none⟩)) := px (fun w => by kernel_rfl) K
@[push_cast] theorem fa_24_4 (b o : Nat) : PureX Tryd.prog (Instr.fieldAt 24 (.pointer (some ⟨b, o, none⟩)) 4) (tag K) = K (.pointer (some ⟨b, o + 4, none⟩)) := px (fun w => by kernel_rfl) K
@[push_cast] theorem fa_26_0 (b o : Nat) : PureX Tryd.prog (Instr.fieldAt 26 (.pointer (some ⟨b, o, none⟩)) 0) (tag K) = K (.pointer (some ⟨b, o, none⟩)) := px (fun w => by kernel_rfl) K
@[push_cast] theorem fa_26_1 (b o : Nat) : PureX Tryd.prog (Instr.fieldAt 26 (.pointer (some ⟨b, o, none⟩)) 1) (tag K) = K (.pointer (some ⟨b, o + 1, none⟩)) := px (fun w => by kernel_rfl) K
@[push_cast] theorem fa_26_2 (b o : Nat) : PureX Tryd.prog (Instr.fieldAt 26 (.pointer (some ⟨b, o, none⟩)) 2) (tag K) = K (.pointer (some ⟨b, o + 2, none⟩)) := px (fun w => by kernel_rfl) K
@[push_cast] theorem fa_29_0 (b o : Nat) : PureX Tryd.prog (Instr.fieldAt 29 (.pointer (some ⟨b, o, none⟩)) 0) (tag K) = K (.pointer (some ⟨b, o, none⟩)) := px (fun w => by kernel_rfl) K
@[push_cast] theorem fa_29_1 (b o : Nat) : PureX Tryd.prog (Instr.fieldAt 29 (.pointer (some ⟨b, o, none⟩)) 1) (tag K) = K (.pointer (some ⟨b, o + 1, none⟩)) := px (fun w => by kernel_rfl) K
@[push_cast] theorem fa_29_2 (b o : Nat) : PureX Tryd.prog (Instr.fieldAt 29 (.pointer (some ⟨b, o, none⟩)) 2) (tag K) = K (.pointer (some ⟨b, o + 2, none⟩)) := px (fun w => by kernel_rfl) K
@[push_cast] theorem fa_29_3 (b o : Nat) : PureX Tryd.prog (Instr.fieldAt 29 (.pointer (some ⟨b, o, none⟩)) 3) (tag K) = K (.pointer (some ⟨b, o + 3, none⟩)) := px (fun w => by kernel_rfl) K
@[push_cast] theorem fa_50_0 (b o : Nat) : PureX Tryd.prog (Instr.fieldAt 50 (.pointer (some ⟨b, o, none⟩)) 0) (tag K) = K (.pointer (some ⟨b, o, none⟩)) := px (fun w => by kernel_rfl) K
@[push_cast] theorem fa_50_1 (b o : Nat) : PureX Tryd.prog (Instr.fieldAt 50 (.pointer (some ⟨b, o, none⟩)) 1) (tag K) = K (.pointer (some ⟨b, o + 1, none⟩)) := px (fun w => by kernel_rfl) K
@[push_cast] theorem fa_50_2 (b o : Nat) : PureX Tryd.prog (Instr.fieldAt 50 (.pointer (some ⟨b, o, none⟩)) 2) (tag K) = K (.pointer (some ⟨b, o + 2, none⟩)) := px (fun w => by kernel_rfl) K
@[push_cast] theorem fa_50_3 (b o : Nat) : PureX Tryd.prog (Instr.fieldAt 50 (.pointer (some ⟨b, o, none⟩)) 3) (tag K) = K (.pointer (some ⟨b, o + 3, none⟩)) := px (fun w => by kernel_rfl) K
@[push_cast] theorem fa_72_0 (b o : Nat) : PureX Tryd.prog (Instr.fieldAt 72 (.pointer (some ⟨b, o, none⟩)) 0) (tag K) = K (.pointer (some ⟨b, o, none⟩)) := px (fun w => by kernel_rfl) K
@[push_cast] theorem fa_72_1 (b o : Nat) : PureX Tryd.prog (Instr.fieldAt 72 (.pointer (some ⟨b, o, none⟩)) 1) (tag K) = K (.pointer (some ⟨b, o + 1, none⟩)) := px (fun w => by kernel_rfl) K
@[push_cast] theorem fa_76_0 (b o : Nat) : PureX Tryd.prog (Instr.fieldAt 76 (.pointer (some ⟨b, o, none⟩)) 0) (tag K) = K (.pointer (some ⟨b, o, none⟩)) := px (fun w => by kernel_rfl) K
@[push_cast] theorem fa_97_0 (b o : Nat) : PureX Tryd.prog (Instr.fieldAt 97 (.pointer (some ⟨b, o, none⟩)) 0) (tag K) = K (.pointer (some ⟨b, o, none⟩)) := px (fun w => by kernel_rfl) K
@[push_cast] theorem fa_97_1 (b o : Nat) : PureX Tryd.prog (Instr.fieldAt 97 (.pointer (some ⟨b, o, none⟩)) 1) (tag K) = K (.pointer (some ⟨b, o + 1, none⟩)) := px (fun w => by kernel_rfl) K
@[push_cast] theorem fa_111_0 (b o : Nat) : PureX Tryd.prog (Instr.fieldAt 111 (.pointer (some ⟨b, o, none⟩)) 0) (tag K) = K (.pointer (some ⟨b, o, none⟩)) := px (fun w => by kernel_rfl) K
@[push_cast] theorem fa_111_1 (b o : Nat) : PureX Tryd.prog (Instr.fieldAt 111 (.pointer (some ⟨b, o, none⟩)) 1) (tag K) = K (.pointer (some ⟨b, o + 1, none⟩)) := px (fun w => by kernel_rfl) K
@[push_cast] theorem fa_120_0 (b o : Nat) : PureX Tryd.prog (Instr.fieldAt 120 (.pointer (some ⟨b, o, none⟩)) 0) (tag K) = K (.pointer (some ⟨b, o, none⟩)) := px (fun w => by kernel_rfl) K
@[push_cast] theorem fa_120_1 (b o : Nat) : PureX Tryd.prog (Instr.fieldAt 120 (.pointer (some ⟨b, o, none⟩)) 1) (tag K) = K (.pointer (some ⟨b, o + 1, none⟩)) := px (fun w => by kernel_rfl) K
@[push_cast] theorem fa_126_0 (b o : Nat) : PureX Tryd.prog (Instr.fieldAt 126 (.pointer (some ⟨b, o, none⟩)) 0) (tag K) = K (.pointer (some ⟨b, o, none⟩)) := px (fun w => by kernel_rfl) K
@[push_cast] theorem fa_126_1 (b o : Nat) : PureX Tryd.prog (Instr.fieldAt 126 (.pointer (some ⟨b, o, none⟩)) 1) (tag K) = K (.pointer (some ⟨b, o + 1, none⟩)) := px (fun w => by kernel_rfl) K
@[push_cast] theorem fa_126_2 (b o : Nat) : PureX Tryd.prog (Instr.fieldAt 126 (.pointer (some ⟨b, o, none⟩)) 2) (tag K) = K (.pointer (some ⟨b, o + 2, none⟩)) := px (fun w => by kernel_rfl) K
@[push_cast] theorem fa_126_3 (b o : Nat) : PureX Tryd.prog (Instr.fieldAt 126 (.pointer (some ⟨b, o, none⟩)) 3) (tag K) = K (.pointer (some ⟨b, o + 9, none⟩)) := px (fun w => by kernel_rfl) K
@[push_cast] theorem fa_131_0 (b o : Nat) : PureX Tryd.prog (Instr.fieldAt 131 (.pointer (some ⟨b, o, none⟩)) 0) (tag K) = K (.pointer (some ⟨b, o, none⟩)) := px (fun w => by kernel_rfl) K
@[push_cast] theorem fa_131_1 (b o : Nat) : PureX Tryd.prog (Instr.fieldAt 131 (.pointer (some ⟨b, o, none⟩)) 1) (tag K) = K (.pointer (some ⟨b, o + 1, none⟩)) := px (fun w => by kernel_rfl) K
@[push_cast] theorem fa_139_0 (b o : Nat) : PureX Tryd.prog (Instr.fieldAt 139 (.pointer (some ⟨b, o, none⟩)) 0) (tag K) = K (.pointer (some ⟨b, o, none⟩)) := px (fun w => by kernel_rfl) K
@[push_cast] theorem fa_139_1 (b o : Nat) : PureX Tryd.prog (Instr.fieldAt 139 (.pointer (some ⟨b, o, none⟩)) 1) (tag K) = K (.pointer (some ⟨b, o + 1, none⟩)) := px (fun w => by kernel_rfl) K
@[push_cast] theorem fa_139_2 (b o : Nat) : PureX Tryd.prog (Instr.fieldAt 139 (.pointer (some ⟨b, o, none⟩)) 2) (tag K) = K (.pointer (some ⟨b, o + 8, none⟩)) := px (fun w => by kernel_rfl) K
@[push_cast] theorem fa_139_3 (b o : Nat) : PureX Tryd.prog (Instr.fieldAt 139 (.pointer (some ⟨b, o, none⟩)) 3) (tag K) = K (.pointer (some ⟨b, o + 9, none⟩)) := px (fun w => by kernel_rfl) K
@[push_cast] theorem fa_158_3 (b o : Nat) : PureX Tryd.prog (Instr.fieldAt 158 (.pointer (some ⟨b, o, none⟩)) 3) (tag K) = K (.pointer (some ⟨b, o + 3, none⟩)) := px (fun w => by kernel_rfl) K
@[push_cast] theorem sh_2 : shapeOf Tryd.prog 2 = some (false, 1) := by kernel_rfl
@[push_cast] theorem sz_2 : (Tryd.prog.info? 2).map (·.size) = some 1 := by kernel_rfl
instance : Shp Tryd.prog 2 false 1 := ⟨sh_2⟩
instance : Siz Tryd.prog 2 1 := ⟨sz_2⟩
@[push_cast] theorem sh_3 : shapeOf Tryd.prog 3 = some (false, 1) := by kernel_rfl
@[push_cast] theorem sz_3 : (Tryd.prog.info? 3).map (·.size) = some 1 := by kernel_rfl
instance : Shp Tryd.prog 3 false 1 := ⟨sh_3⟩
instance : Siz Tryd.prog 3 1 := ⟨sz_3⟩
@[push_cast] theorem sh_4 : shapeOf Tryd.prog 4 = some (false, 1) := by kernel_rfl
@[push_cast] theorem sz_4 : (Tryd.prog.info? 4).map (·.size) = some 1 := by kernel_rfl
instance : Shp Tryd.prog 4 false 1 := ⟨sh_4⟩
instance : Siz Tryd.prog 4 1 := ⟨sz_4⟩
@[push_cast] theorem sh_5 : shapeOf Tryd.prog 5 = some (false, 1) := by kernel_rfl
@[push_cast] theorem sz_5 : (Tryd.prog.info? 5).map (·.size) = some 1 := by kernel_rfl
instance : Shp Tryd.prog 5 false 1 := ⟨sh_5⟩
instance : Siz Tryd.prog 5 1 := ⟨sz_5⟩
@[push_cast] theorem sh_9 : shapeOf Tryd.prog 9 = some (false, 1) := by kernel_rfl
@[push_cast] theorem sz_9 : (Tryd.prog.info? 9).map (·.size) = some 1 := by kernel_rfl
instance : Shp Tryd.prog 9 false 1 := ⟨sh_9⟩
instance : Siz Tryd.prog 9 1 := ⟨sz_9⟩
@[push_cast] theorem sh_22 : shapeOf Tryd.prog 22 = some (false, 1) := by kernel_rfl
@[push_cast] theorem sz_22 : (Tryd.prog.info? 22).map (·.size) = some 1 := by kernel_rfl
instance : Shp Tryd.prog 22 false 1 := ⟨sh_22⟩
instance : Siz Tryd.prog 22 1 := ⟨sz_22⟩
@[push_cast] theorem sh_24 : shapeOf Tryd.prog 24 = some (true, 5) := by kernel_rfl
@[push_cast] theorem sz_24 : (Tryd.prog.info? 24).map (·.size) = some 5 := by kernel_rfl
instance : Shp Tryd.prog 24 true 5 := ⟨sh_24⟩
instance : Siz Tryd.prog 24 5 := ⟨sz_24⟩
@[push_cast] theorem sh_26 : shapeOf Tryd.prog 26 = some (true, 7) := by kernel_rfl
@[push_cast] theorem sz_26 : (Tryd.prog.info? 26).map (·.size) = some 7 := by kernel_rfl
instance : Shp Tryd.prog 26 true 7 := ⟨sh_26⟩
instance : Siz Tryd.prog 26 7 := ⟨sz_26⟩
@[push_cast] theorem sh_27 : shapeOf Tryd.prog 27 = some (false, 1) := by kernel_rfl
@[push_cast] theorem sz_27 : (Tryd.prog.info? 27).map (·.size) = some 1 := by kernel_rfl
instance : Shp Tryd.prog 27 false 1 := ⟨sh_27⟩
instance : Siz Tryd.prog 27 1 := ⟨sz_27⟩
@[push_cast] theorem sh_29 : shapeOf Tryd.prog 29 = some (true, 4) := by kernel_rfl
@[push_cast] theorem sz_29 : (Tryd.prog.info? 29).map (·.size) = some 4 := by kernel_rfl
instance : Shp Tryd.prog 29 true 4 := ⟨sh_29⟩
instance : Siz Tryd.prog 29 4 := ⟨sz_29⟩
@[push_cast] theorem sh_30 : shapeOf Tryd.prog 30 = some (false, 1) := by kernel_rfl
@[push_cast] theorem sz_30 : (Tryd.prog.info? 30).map (·.size) = some 1 := by kernel_rfl
instance : Shp Tryd.prog 30 false 1 := ⟨sh_30⟩
instance : Siz Tryd.prog 30 1 := ⟨sz_30⟩
@[push_cast] theorem sh_47 : shapeOf Tryd.prog 47 = some (false, 1) := by kernel_rfl
@[push_cast] theorem sz_47 : (Tryd.prog.info? 47).map (·.size) = some 1 := by kernel_rfl
instance : Shp Tryd.prog 47 false 1 := ⟨sh_47⟩
instance : Siz Tryd.prog 47 1 := ⟨sz_47⟩
@[push_cast] theorem sh_48 : shapeOf Tryd.prog 48 = some (false, 1) := by kernel_rfl
@[push_cast] theorem sz_48 : (Tryd.prog.info? 48).map (·.size) = some 1 := by kernel_rfl
instance : Shp Tryd.prog 48 false 1 := ⟨sh_48⟩
instance : Siz Tryd.prog 48 1 := ⟨sz_48⟩
@[push_cast] theorem sh_50 : shapeOf Tryd.prog 50 = some (true, 4) := by kernel_rfl
@[push_cast] theorem sz_50 : (Tryd.prog.info? 50).map (·.size) = some 4 := by kernel_rfl
instance : Shp Tryd.prog 50 true 4 := ⟨sh_50⟩
instance : Siz Tryd.prog 50 4 := ⟨sz_50⟩
@[push_cast] theorem sh_59 : shapeOf Tryd.prog 59 = some (false, 1) := by kernel_rfl
@[push_cast] theorem sz_59 : (Tryd.prog.info? 59).map (·.size) = some 1 := by kernel_rfl
instance : Shp Tryd.prog 59 false 1 := ⟨sh_59⟩
instance : Siz Tryd.prog 59 1 := ⟨sz_59⟩
@[push_cast] theorem sh_67 : shapeOf Tryd.prog 67 = some (false, 1) := by kernel_rfl
@[push_cast] theorem sz_67 : (Tryd.prog.info? 67).map (·.size) = some 1 := by kernel_rfl
instance : Shp Tryd.prog 67 false 1 := ⟨sh_67⟩
instance : Siz Tryd.prog 67 1 := ⟨sz_67⟩
@[push_cast] theorem sh_72 : shapeOf Tryd.prog 72 = some (true, 3) := by kernel_rfl
@[push_cast] theorem sz_72 : (Tryd.prog.info? 72).map (·.size) = some 3 := by kernel_rfl
instance : Shp Tryd.prog 72 true 3 := ⟨sh_72⟩
instance : Siz Tryd.prog 72 3 := ⟨sz_72⟩
@[push_cast] theorem sh_76 : shapeOf Tryd.prog 76 = some (true, 1) := by kernel_rfl
@[push_cast] theorem sz_76 : (Tryd.prog.info? 76).map (·.size) = some 1 := by kernel_rfl
instance : Shp Tryd.prog 76 true 1 := ⟨sh_76⟩
instance : Siz Tryd.prog 76 1 := ⟨sz_76⟩
@[push_cast] theorem sh_91 : shapeOf Tryd.prog 91 = some (false, 1) := by kernel_rfl
@[push_cast] theorem sz_91 : (Tryd.prog.info? 91).map (·.size) = some 1 := by kernel_rfl
instance : Shp Tryd.prog 91 false 1 := ⟨sh_91⟩
instance : Siz Tryd.prog 91 1 := ⟨sz_91⟩
@[push_cast] theorem sh_95 : shapeOf Tryd.prog 95 = some (false, 1) := by kernel_rfl
@[push_cast] theorem sz_95 : (Tryd.prog.info? 95).map (·.size) = some 1 := by kernel_rfl
instance : Shp Tryd.prog 95 false 1 := ⟨sh_95⟩
instance : Siz Tryd.prog 95 1 := ⟨sz_95⟩
@[push_cast] theorem sh_97 : shapeOf Tryd.prog 97 = some (true, 2) := by kernel_rfl
@[push_cast] theorem sz_97 : (Tryd.prog.info? 97).map (·.size) = some 2 := by kernel_rfl
instance : Shp Tryd.prog 97 true 2 := ⟨sh_97⟩
instance : Siz Tryd.prog 97 2 := ⟨sz_97⟩
@[push_cast] theorem sh_109 : shapeOf Tryd.prog 109 = some (false, 1) := by kernel_rfl
@[push_cast] theorem sz_109 : (Tryd.prog.info? 109).map (·.size) = some 1 := by kernel_rfl
instance : Shp Tryd.prog 109 false 1 := ⟨sh_109⟩
instance : Siz Tryd.prog 109 1 := ⟨sz_109⟩
@[push_cast] theorem sh_111 : shapeOf Tryd.prog 111 = some (true, 2) := by kernel_rfl
@[push_cast] theorem sz_111 : (Tryd.prog.info? 111).map (·.size) = some 2 := by kernel_rfl
instance : Shp Tryd.prog 111 true 2 := ⟨sh_111⟩
instance : Siz Tryd.prog 111 2 := ⟨sz_111⟩
@[push_cast] theorem sh_120 : shapeOf Tryd.prog 120 = some (true, 2) := by kernel_rfl
@[push_cast] theorem sz_120 : (Tryd.prog.info? 120).map (·.size) = some 2 := by kernel_rfl
instance : Shp Tryd.prog 120 true 2 := ⟨sh_120⟩
instance : Siz Tryd.prog 120 2 := ⟨sz_120⟩
@[push_cast] theorem sh_121 : shapeOf Tryd.prog 121 = some (false, 1) := by kernel_rfl
@[push_cast] theorem sz_121 : (Tryd.prog.info? 121).map (·.size) = some 1 := by kernel_rfl
instance : Shp Tryd.prog 121 false 1 := ⟨sh_121⟩
instance : Siz Tryd.prog 121 1 := ⟨sz_121⟩
@[push_cast] theorem sh_126 : shapeOf Tryd.prog 126 = some (true, 10) := by kernel_rfl
@[push_cast] theorem sz_126 : (Tryd.prog.info? 126).map (·.size) = some 10 := by kernel_rfl
instance : Shp Tryd.prog 126 true 10 := ⟨sh_126⟩
instance : Siz Tryd.prog 126 10 := ⟨sz_126⟩
@[push_cast] theorem sh_131 : shapeOf Tryd.prog 131 = some (true, 2) := by kernel_rfl
@[push_cast] theorem sz_131 : (Tryd.prog.info? 131).map (·.size) = some 2 := by kernel_rfl
instance : Shp Tryd.prog 131 true 2 := ⟨sh_131⟩
instance : Siz Tryd.prog 131 2 := ⟨sz_131⟩
@[push_cast] theorem sh_132 : shapeOf Tryd.prog 132 = some (true, 32) := by kernel_rfl
@[push_cast] theorem sz_132 : (Tryd.prog.info? 132).map (·.size) = some 32 := by kernel_rfl
instance : Shp Tryd.prog 132 true 32 := ⟨sh_132⟩
instance : Siz Tryd.prog 132 32 := ⟨sz_132⟩
@[push_cast] theorem sh_139 : shapeOf Tryd.prog 139 = some (true, 10) := by kernel_rfl
@[push_cast] theorem sz_139 : (Tryd.prog.info? 139).map (·.size) = some 10 := by kernel_rfl
instance : Shp Tryd.prog 139 true 10 := ⟨sh_139⟩
instance : Siz Tryd.prog 139 10 := ⟨sz_139⟩
@[push_cast] theorem sh_147 : shapeOf Tryd.prog 147 = some (false, 1) := by kernel_rfl
@[push_cast] theorem sz_147 : (Tryd.prog.info? 147).map (·.size) = some 1 := by kernel_rfl
instance : Shp Tryd.prog 147 false 1 := ⟨sh_147⟩
instance : Siz Tryd.prog 147 1 := ⟨sz_147⟩
@[push_cast] theorem sh_148 : shapeOf Tryd.prog 148 = some (false, 1) := by kernel_rfl
@[push_cast] theorem sz_148 : (Tryd.prog.info? 148).map (·.size) = some 1 := by kernel_rfl
instance : Shp Tryd.prog 148 false 1 := ⟨sh_148⟩
instance : Siz Tryd.prog 148 1 := ⟨sz_148⟩
@[push_cast] theorem sh_159 : shapeOf Tryd.prog 159 = some (true, 84) := by kernel_rfl
@[push_cast] theorem sz_159 : (Tryd.prog.info? 159).map (·.size) = some 84 := by kernel_rfl
instance : Shp Tryd.prog 159 true 84 := ⟨sh_159⟩
instance : Siz Tryd.prog 159 84 := ⟨sz_159⟩
@[push_cast] theorem al_3 (wb : World) (L : Own) (K : Value → Own → Prop) : AllocX Tryd.prog 3 wb L (tag K) = NewX wb L (.cells #[.int .i64 0] 3 (0, 0)) (tag fun b L => K (.pointer (some ⟨b, 0, none⟩)) L) := allocX_eq (z := .int .i64 0) (by kernel_rfl) wb L K
@[push_cast] theorem al_24 (wb : World) (L : Own) (K : Value → Own → Prop) : AllocX Tryd.prog 24 wb L (tag K) = NewX wb L (.cells #[.int .i64 0, .int .i64 0, .int .i64 0, .int .i64 0, .slice none 0 0] 24 (0, 0)) (tag fun b L => K (.pointer (some ⟨b, 0, none⟩)) L) := allocX_eq (z := .agg #[.int .i64 0, .int .i64 0, .int .i64 0, .int .i64 0, .slice none 0 0]) (by kernel_rfl) wb L K
@[push_cast] theorem al_26 (wb : World) (L : Own) (K : Value → Own → Prop) : AllocX Tryd.prog 26 wb L (tag K) = NewX wb L (.cells #[.string ⟨#[]⟩, .bool false, .int .i64 0, .int .i64 0, .int .i64 0, .int .i64 0, .slice none 0 0] 26 (0, 0)) (tag fun b L => K (.pointer (some ⟨b, 0, none⟩)) L) := allocX_eq (z := .agg #[.string ⟨#[]⟩, .bool false, .int .i64 0, .int .i64 0, .int .i64 0, .int .i64 0, .slice none 0 0]) (by kernel_rfl) wb L K
@[push_cast] theorem al_29 (wb : World) (L : Own) (K : Value → Own → Prop) : AllocX Tryd.prog 29 wb L (tag K) = NewX wb L (.cells #[.bool false, .int .i64 0, .string ⟨#[]⟩, .slice none 0 0] 29 (0, 0)) (tag fun b L => K (.pointer (some ⟨b, 0, none⟩)) L) := allocX_eq (z := .agg #[.bool false, .int .i64 0, .string ⟨#[]⟩, .slice none 0 0]) (by kernel_rfl) wb L K
@[push_cast] theorem al_59 (wb : World) (L : Own) (K : Value → Own → Prop) : AllocX Tryd.prog 59 wb L (tag K) = NewX wb L (.cells #[.int .u64 0] 59 (0, 0)) (tag fun b L => K (.pointer (some ⟨b, 0, none⟩)) L) := allocX_eq (z := .int .u64 0) (by kernel_rfl) wb L K
@[push_cast] theorem al_72 (wb : World) (L : Own) (K : Value → Own → Prop) : AllocX Tryd.prog 72 wb L (tag K) = NewX wb L (.cells #[.int .i64 0, .slice none 0 0, .int .i64 0] 72 (0, 0)) (tag fun b L => K (.pointer (some ⟨b, 0, none⟩)) L) := allocX_eq (z := .agg #[.int .i64 0, .slice none 0 0, .int .i64 0]) (by kernel_rfl) wb L K
@[push_cast] theorem al_111 (wb : World) (L : Own) (K : Value → Own → Prop) : AllocX Tryd.prog 111 wb L (tag K) = NewX wb L (.cells #[.pointer none, .slice none 0 0] 111 (0, 0)) (tag fun b L => K (.pointer (some ⟨b, 0, none⟩)) L) := allocX_eq (z := .agg #[.pointer none, .slice none 0 0]) (by kernel_rfl) wb L K
@[push_cast] theorem al_120 (wb : World) (L : Own) (K : Value → Own → Prop) : AllocX Tryd.prog 120 wb L (tag K) = NewX wb L (.cells #[.string ⟨#[]⟩, .string ⟨#[]⟩] 120 (0, 0)) (tag fun b L => K (.pointer (some ⟨b, 0, none⟩)) L) := allocX_eq (z := .agg #[.string ⟨#[]⟩, .string ⟨#[]⟩]) (by kernel_rfl) wb L K
@[push_cast] theorem al_121 (wb : World) (L : Own) (K : Value → Own → Prop) : AllocX Tryd.prog 121 wb L (tag K) = NewX wb L (.cells #[.map none] 121 (0, 0)) (tag fun b L => K (.pointer (some ⟨b, 0, none⟩)) L) := allocX_eq (z := .map none) (by kernel_rfl) wb L K
@[push_cast] theorem al_126 (wb : World) (L : Own) (K : Value → Own → Prop) : AllocX Tryd.prog 126 wb L (tag K) = NewX wb L (.cells #[.slice none 0 0, .slice none 0 0, .string ⟨#[]⟩, .bool false, .int .i64 0, .int .i64 0, .int .i64 0, .int .i64 0, .slice none 0 0, .bool false] 126 (0, 0)) (tag fun b L => K (.pointer (some ⟨b, 0, none⟩)) L) := allocX_eq (z := .agg #[.slice none 0 0, .slice none 0 0, .string ⟨#[]⟩, .bool false, .int .i64 0, .int .i64 0, .int .i64 0, .int .i64 0, .slice none 0 0, .bool false]) (by kernel_rfl) wb L K
@[push_cast] theorem al_131 (wb : World) (L : Own) (K : Value → Own → Prop) : AllocX Tryd.prog 131 wb L (tag K) = NewX wb L (.cells #[.int .u8 0, .int .u8 0] 131 (0, 0)) (tag fun b L => K (.pointer (some ⟨b, 0, none⟩)) L) := allocX_eq (z := .agg #[.int .u8 0, .int .u8 0]) (by kernel_rfl) wb L K
@[push_cast] theorem al_139 (wb : World) (L : Own) (K : Value → Own → Prop) : AllocX Tryd.prog 139 wb L (tag K) = NewX wb L (.cells #[.slice none 0 0, .string ⟨#[]⟩, .bool false, .int .i64 0, .int .i64 0, .int .i64 0, .int .i64 0, .slice none 0 0, .slice none 0 0, .bool false] 139 (0, 0)) (tag fun b L => K (.pointer (some ⟨b, 0, none⟩)) L) := allocX_eq (z := .agg #[.slice none 0 0, .string ⟨#[]⟩, .bool false, .int .i64 0, .int .i64 0, .int .i64 0, .int .i64 0, .slice none 0 0, .slice none 0 0, .bool false]) (by kernel_rfl) wb L K
@[push_cast] theorem al_148 (wb : World) (L : Own) (K : Value → Own → Prop) : AllocX Tryd.prog 148 wb L (tag K) = NewX wb L (.cells #[.nilFunc] 148 (0, 0)) (tag fun b L => K (.pointer (some ⟨b, 0, none⟩)) L) := allocX_eq (z := .nilFunc) (by kernel_rfl) wb L K
theorem un_22 : Tryd.prog.underlying 22 = some (.slice 26) := by kernel_rfl
theorem ez_22 : (Tryd.prog.info? 26).map (·.size) = some 7 := by kernel_rfl
@[push_cast] theorem ix_22 (b off n c : Nat) (k : IntKind) (i : Int) (h0 : 0 ≤ i) (h1 : i < n) : PureX Tryd.prog (Instr.indexAt 22 (.slice (some ⟨b, off, none⟩) n c) (.int k i)) (tag K) = K (.pointer (some ⟨b, off + i.toNat * 7, none⟩)) := idxS b off n c k un_22 ez_22 i h0 h1
@[push_cast] theorem sHi_22 (b off n c : Nat) (k : IntKind) (i : Int) (h0 : 0 ≤ i) (h1 : i ≤ c) : PureX Tryd.prog (Instr.sliceAt 22 (.slice (some ⟨b, off, none⟩) n c) none (some (.int k i)) none) (tag K) = K (.slice (some ⟨b, off, none⟩) i.toNat c) := slHi n c k un_22 ez_22 i _ (fun x h => by cases h; rfl) h0 h1
@[push_cast] theorem sLo_22 (b off n c : Nat) (k : IntKind) (i : Int) (h0 : 0 ≤ i) (h1 : i ≤ n) : PureX Tryd.prog (Instr.sliceAt 22 (.slice (some ⟨b, off, none⟩) n c) (some (.int k i)) none none) (tag K) = K (.slice (some ⟨b, if c = i.toNat then off else off + i.toNat * 7, none⟩) (n - i.toNat) (c - i.toNat)) := slLo b off n c k un_22 ez_22 i h0 h1
@[push_cast] theorem sLoHi_22 (b off n c : Nat) (k : IntKind) (i j : Int) (h0 : 0 ≤ i) (h1 : i ≤ j) (h2 : j ≤ c) : PureX Tryd.prog (Instr.sliceAt 22 (.slice (some ⟨b, off, none⟩) n c) (some (.int k i)) (some (.int k j)) none) (tag K) = K (.slice (some ⟨b, if c = i.toNat then off else off + i.toNat * 7, none⟩) (j.toNat - i.toNat) (c - i.toNat)) := slLoHi b off n c k un_22 ez_22 i j h0 h1 h2
@[push_cast] theorem sHiMax_22 (n c : Nat) (a : Option Addr) (k : IntKind) (i j : Int) (h0 : 0 ≤ i) (h1 : i ≤ j) (h2 : j ≤ c) : PureX Tryd.prog (Instr.sliceAt 22 (.slice a n c) none (some (.int k i)) (some (.int k j))) (tag K) = K (.slice a i.toNat j.toNat) := slHiMax n c k un_22 ez_22 i j a h0 h1 h2
theorem un_27 : Tryd.prog.underlying 27 = some (.slice 29) := by kernel_rfl
theorem ez_27 : (Tryd.prog.info? 29).map (·.size) = some 4 := by kernel_rfl
@[push_cast] theorem ix_27 (b off n c : Nat) (k : IntKind) (i : Int) (h0 : 0 ≤ i) (h1 : i < n) : PureX Tryd.prog (Instr.indexAt 27 (.slice (some ⟨b, off, none⟩) n c) (.int k i)) (tag K) = K (.pointer (some ⟨b, off + i.toNat * 4, none⟩)) := idxS b off n c k un_27 ez_27 i h0 h1
@[push_cast] theorem sHi_27 (b off n c : Nat) (k : IntKind) (i : Int) (h0 : 0 ≤ i) (h1 : i ≤ c) : PureX Tryd.prog (Instr.sliceAt 27 (.slice (some ⟨b, off, none⟩) n c) none (some (.int k i)) none) (tag K) = K (.slice (some ⟨b, off, none⟩) i.toNat c) := slHi n c k un_27 ez_27 i _ (fun x h => by cases h; rfl) h0 h1
@[push_cast] theorem sLo_27 (b off n c : Nat) (k : IntKind) (i : Int) (h0 : 0 ≤ i) (h1 : i ≤ n) : PureX Tryd.prog (Instr.sliceAt 27 (.slice (some ⟨b, off, none⟩) n c) (some (.int k i)) none none) (tag K) = K (.slice (some ⟨b, if c = i.toNat then off else off + i.toNat * 4, none⟩) (n - i.toNat) (c - i.toNat)) := slLo b off n c k un_27 ez_27 i h0 h1
@[push_cast] theorem sLoHi_27 (b off n c : Nat) (k : IntKind) (i j : Int) (h0 : 0 ≤ i) (h1 : i ≤ j) (h2 : j ≤ c) : PureX Tryd.prog (Instr.sliceAt 27 (.slice (some ⟨b, off, none⟩) n c) (some (.int k i)) (some (.int k j)) none) (tag K) = K (.slice (some ⟨b, if c = i.toNat then off else off + i.toNat * 4, none⟩) (j.toNat - i.toNat) (c - i.toNat)) := slLoHi b off n c k un_27 ez_27 i j h0 h1 h2
@[push_cast] theorem sHiMax_27 (n c : Nat) (a : Option Addr) (k : IntKind) (i j : Int) (h0 : 0 ≤ i) (h1 : i ≤ j) (h2 : j ≤ c) : PureX Tryd.prog (Instr.sliceAt 27 (.slice a n c) none (some (.int k i)) (some (.int k j))) (tag K) = K (.slice a i.toNat j.toNat) := slHiMax n c k un_27 ez_27 i j a h0 h1 h2
theorem un_47 : Tryd.prog.underlying 47 = some (.slice 27) := by kernel_rfl
theorem ez_47 : (Tryd.prog.info? 27).map (·.size) = some 1 := by kernel_rfl
@[push_cast] theorem ix_47 (b off n c : Nat) (k : IntKind) (i : Int) (h0 : 0 ≤ i) (h1 : i < n) : PureX Tryd.prog (Instr.indexAt 47 (.slice (some ⟨b, off, none⟩) n c) (.int k i)) (tag K) = K (.pointer (some ⟨b, off + i.toNat * 1, none⟩)) := idxS b off n c k un_47 ez_47 i h0 h1
theorem un_48 : Tryd.prog.underlying 48 = some (.slice 67) := by kernel_rfl
theorem ez_48 : (Tryd.prog.info? 67).map (·.size) = some 1 := by kernel_rfl
@[push_cast] theorem ix_48 (b off n c : Nat) (k : IntKind) (i : Int) (h0 : 0 ≤ i) (h1 : i < n) : PureX Tryd.prog (Instr.indexAt 48 (.slice (some ⟨b, off, none⟩) n c) (.int k i)) (tag K) = K (.pointer (some ⟨b, off + i.toNat * 1, none⟩)) := idxS b off n c k un_48 ez_48 i h0 h1
theorem un_67 : Tryd.prog.underlying 67 = some (.slice 3) := by kernel_rfl
theorem ez_67 : (Tryd.prog.info? 3).map (·.size) = some 1 := by kernel_rfl
@[push_cast] theorem ix_67 (b off n c : Nat) (k : IntKind) (i : Int) (h0 : 0 ≤ i) (h1 : i < n) : PureX Tryd.prog (Instr.indexAt 67 (.slice (some ⟨b, off, none⟩) n c) (.int k i)) (tag K) = K (.pointer (some ⟨b, off + i.toNat * 1, none⟩)) := idxS b off n c k un_67 ez_67 i h0 h1
@[push_cast] theorem sHi_67 (b off n c : Nat) (k : IntKind) (i : Int) (h0 : 0 ≤ i) (h1 : i ≤ c) : PureX Tryd.prog (Instr.sliceAt 67 (.slice (some ⟨b, off, none⟩) n c) none (some (.int k i)) none) (tag K) = K (.slice (some ⟨b, off, none⟩) i.toNat c) := slHi n c k un_67 ez_67 i _ (fun x h => by cases h; rfl) h0 h1
@[push_cast] theorem sLo_67 (b off n c : Nat) (k : IntKind) (i : Int) (h0 : 0 ≤ i) (h1 : i ≤ n) : PureX Tryd.prog (Instr.sliceAt 67 (.slice (some ⟨b, off, none⟩) n c) (some (.int k i)) none none) (tag K) = K (.slice (some ⟨b, if c = i.toNat then off else off + i.toNat * 1, none⟩) (n - i.toNat) (c - i.toNat)) := slLo b off n c k un_67 ez_67 i h0 h1
@[push_cast] theorem sLoHi_67 (b off n c : Nat) (k : IntKind) (i j : Int) (h0 : 0 ≤ i) (h1 : i ≤ j) (h2 : j ≤ c) : PureX Tryd.prog (Instr.sliceAt 67 (.slice (some ⟨b, off, none⟩) n c) (some (.int k i)) (some (.int k j)) none) (tag K) = K (.slice (some ⟨b, if c = i.toNat then off else off + i.toNat * 1, none⟩) (j.toNat - i.toNat) (c - i.toNat)) := slLoHi b off n c k un_67 ez_67 i j h0 h1 h2
@[push_cast] theorem sHiMax_67 (n c : Nat) (a : Option Addr) (k : IntKind) (i j : Int) (h0 : 0 ≤ i) (h1 : i ≤ j) (h2 : j ≤ c) : PureX Tryd.prog (Instr.sliceAt 67 (.slice a n c) none (some (.int k i)) (some (.int k j))) (tag K) = K (.slice a i.toNat j.toNat) := slHiMax n c k un_67 ez_67 i j a h0 h1 h2
theorem un_91 : Tryd.prog.underlying 91 = some (.slice 5) := by kernel_rfl
theorem ez_91 : (Tryd.prog.info? 5).map (·.size) = some 1 := by kernel_rfl
@[push_cast] theorem ix_91 (b off n c : Nat) (k : IntKind) (i : Int) (h0 : 0 ≤ i) (h1 : i < n) : PureX Tryd.prog (Instr.indexAt 91 (.slice (some ⟨b, off, none⟩) n c) (.int k i)) (tag K) = K (.pointer (some ⟨b, off + i.toNat * 1, none⟩)) := idxS b off n c k un_91 ez_91 i h0 h1
@[push_cast] theorem sHi_91 (b off n c : Nat) (k : IntKind) (i : Int) (h0 : 0 ≤ i) (h1 : i ≤ c) : PureX Tryd.prog (Instr.sliceAt 91 (.slice (some ⟨b, off, none⟩) n c) none (some (.int k i)) none) (tag K) = K (.slice (some ⟨b, off, none⟩) i.toNat c) := slHi n c k un_91 ez_91 i _ (fun x h => by cases h; rfl) h0 h1
@[push_cast] theorem sLo_91 (b off n c : Nat) (k : IntKind) (i : Int) (h0 : 0 ≤ i) (h1 : i ≤ n) : PureX Tryd.prog (Instr.sliceAt 91 (.slice (some ⟨b, off, none⟩) n c) (some (.int k i)) none none) (tag K) = K (.slice (some ⟨b, if c = i.toNat then off else off + i.toNat * 1, none⟩) (n - i.toNat) (c - i.toNat)) := slLo b off n c k un_91 ez_91 i h0 h1
@[push_cast] theorem sLoHi_91 (b off n c : Nat) (k : IntKind) (i j : Int) (h0 : 0 ≤ i) (h1 : i ≤ j) (h2 : j ≤ c) : PureX Tryd.prog (Instr.sliceAt 91 (.slice (some ⟨b, off, none⟩) n c) (some (.int k i)) (some (.int k j)) none) (tag K) = K (.slice (some ⟨b, if c = i.toNat then off else off + i.toNat * 1, none⟩) (j.toNat - i.toNat) (c - i.toNat)) := slLoHi b off n c k un_91 ez_91 i j h0 h1 h2
@[push_cast] theorem sHiMax_91 (n c : Nat) (a : Option Addr) (k : IntKind) (i j : Int) (h0 : 0 ≤ i) (h1 : i ≤ j) (h2 : j ≤ c) : PureX Tryd.prog (Instr.sliceAt 91 (.slice a n c) none (some (.int k i)) (some (.int k j))) (tag K) = K (.slice a i.toNat j.toNat) := slHiMax n c k un_91 ez_91 i j a h0 h1 h2
theorem un_95 : Tryd.prog.underlying 95 = some (.slice 120) := by kernel_rfl
theorem ez_95 : (Tryd.prog.info? 120).map (·.size) = some 2 := by kernel_rfl
@[push_cast] theorem ix_95 (b off n c : Nat) (k : IntKind) (i : Int) (h0 : 0 ≤ i) (h1 : i < n) : PureX Tryd.prog (Instr.indexAt 95 (.slice (some ⟨b, off, none⟩) n c) (.int k i)) (tag K) = K (.pointer (some ⟨b, off + i.toNat * 2, none⟩)) := idxS b off n c k un_95 ez_95 i h0 h1
theorem un_135 : Tryd.prog.underlying 135 = some (.slice 139) := by kernel_rfl
theorem ez_135 : (Tryd.prog.info? 139).map (·.size) = some 10 := by kernel_rfl
@[push_cast] theorem ix_135 (b off n c : Nat) (k : IntKind) (i : Int) (h0 : 0 ≤ i) (h1 : i < n) : PureX Tryd.prog (Instr.indexAt 135 (.slice (some ⟨b, off, none⟩) n c) (.int k i)) (tag K) = K (.pointer (some ⟨b, off + i.toNat * 10, none⟩)) := idxS b off n c k un_135 ez_135 i h0 h1
@[push_cast] theorem sHi_135 (b off n c : Nat) (k : IntKind) (i : Int) (h0 : 0 ≤ i) (h1 : i ≤ c) : PureX Tryd.prog (Instr.sliceAt 135 (.slice (some ⟨b, off, none⟩) n c) none (some (.int k i)) none) (tag K) = K (.slice (some ⟨b, off, none⟩) i.toNat c) := slHi n c k un_135 ez_135 i _ (fun x h => by cases h; rfl) h0 h1
@[push_cast] theorem sLo_135 (b off n c : Nat) (k : IntKind) (i : Int) (h0 : 0 ≤ i) (h1 : i ≤ n) : PureX Tryd.prog (Instr.sliceAt 135 (.slice (some ⟨b, off, none⟩) n c) (some (.int k i)) none none) (tag K) = K (.slice (some ⟨b, if c = i.toNat then off else off + i.toNat * 10, none⟩) (n - i.toNat) (c - i.toNat)) := slLo b off n c k un_135 ez_135 i h0 h1
@[push_cast] theorem sLoHi_135 (b off n c : Nat) (k : IntKind) (i j : Int) (h0 : 0 ≤ i) (h1 : i ≤ j) (h2 : j ≤ c) : PureX Tryd.prog (Instr.sliceAt 135 (.slice (some ⟨b, off, none⟩) n c) (some (.int k i)) (some (.int k j)) none) (tag K) = K (.slice (some ⟨b, if c = i.toNat then off else off + i.toNat * 10, none⟩) (j.toNat - i.toNat) (c - i.toNat)) := slLoHi b off n c k un_135 ez_135 i j h0 h1 h2
@[push_cast] theorem sHiMax_135 (n c : Nat) (a : Option Addr) (k : IntKind) (i j : Int) (h0 : 0 ≤ i) (h1 : i ≤ j) (h2 : j ≤ c) : PureX Tryd.prog (Instr.sliceAt 135 (.slice a n c) none (some (.int k i)) (some (.int k j))) (tag K) = K (.slice a i.toNat j.toNat) := slHiMax n c k un_135 ez_135 i j a h0 h1 h2
theorem ua_129 : Tryd.prog.underlying 129 = some (.array 256 5) := by kernel_rfl
theorem ez_129 : (Tryd.prog.info? 5).map (·.size) = some 1 := by kernel_rfl
@[push_cast] theorem ix_129 (b off : Nat) (k : IntKind) (i : Int) (h0 : 0 ≤ i) (h1 : i < (256 : Nat)) : PureX Tryd.prog (Instr.indexAt 129 (.pointer (some ⟨b, off, none⟩)) (.int k i)) (tag K) = K (.pointer (some ⟨b, off + i.toNat * 1, none⟩)) := idxA b off k ua_129 ez_129 i h0 h1
theorem ua_132 : Tryd.prog.underlying 132 = some (.array 16 131) := by kernel_rfl
theorem ez_132 : (Tryd.prog.info? 131).map (·.size) = some 2 := by kernel_rfl
@[push_cast] theorem ix_132 (b off : Nat) (k : IntKind) (i : Int) (h0 : 0 ≤ i) (h1 : i < (16 : Nat)) : PureX Tryd.prog (Instr.indexAt 132 (.pointer (some ⟨b, off, none⟩)) (.int k i)) (tag K) = K (.pointer (some ⟨b, off + i.toNat * 2, none⟩)) := idxA b off k ua_132 ez_132 i h0 h1
theorem ua_159 : Tryd.prog.underlying 159 = some (.array 21 158) := by kernel_rfl
theorem ez_159 : (Tryd.prog.info? 158).map (·.size) = some 4 := by kernel_rfl
@[push_cast] theorem ix_159 (b off : Nat) (k : IntKind) (i : Int) (h0 : 0 ≤ i) (h1 : i < (21 : Nat)) : PureX Tryd.prog (Instr.indexAt 159 (.pointer (some ⟨b, off, none⟩)) (.int k i)) (tag K) = K (.pointer (some ⟨b, off + i.toNat * 4, none⟩)) := idxA b off k ua_159 ez_159 i h0 h1
@[push_cast] theorem ln_9 (ty : TypeId) (l : List UInt8) : PureX Tryd.prog (Builtin.len_ #[9] ty #[.string ⟨l.toArray⟩]) (tag K) = K (.int .i64 l.length) := px (fun w => by kernel_rfl) K
@[push_cast] theorem ln_10 (ty : TypeId) (l : List UInt8) : PureX Tryd.prog (Builtin.len_ #[10] ty #[.string ⟨l.toArray⟩]) (tag K) = K (.int .i64 l.length) := px (fun w => by kernel_rfl) K
@[push_cast] theorem ln_11 (ty : TypeId) (l : List UInt8) : PureX Tryd.prog (Builtin.len_ #[11] ty #[.string ⟨l.toArray⟩]) (tag K) = K (.int .i64 l.length) := px (fun w => by kernel_rfl) K
@[push_cast] theorem ln_22 (ty : TypeId) (a : Option Addr) (n c : Nat) : PureX Tryd.prog (Builtin.len_ #[22] ty #[.slice a n c]) (tag K) = K (.int .i64 n) := px (fun w => by kernel_rfl) K
@[push_cast] theorem ln_27 (ty : TypeId) (a : Option Addr) (n c : Nat) : PureX Tryd.prog (Builtin.len_ #[27] ty #[.slice a n c]) (tag K) = K (.int .i64 n) := px (fun w => by kernel_rfl) K
@[push_cast] theorem ln_47 (ty : TypeId) (a : Option Addr) (n c : Nat) : PureX Tryd.prog (Builtin.len_ #[47] ty #[.slice a n c]) (tag K) = K (.int .i64 n) := px (fun w => by kernel_rfl) K
@[push_cast] theorem ln_48 (ty : TypeId) (a : Option Addr) (n c : Nat) : PureX Tryd.prog (Builtin.len_ #[48] ty #[.slice a n c]) (tag K) = K (.int .i64 n) := px (fun w => by kernel_rfl) K
@[push_cast] theorem ln_67 (ty : TypeId) (a : Option Addr) (n c : Nat) : PureX Tryd.prog (Builtin.len_ #[67] ty #[.slice a n c]) (tag K) = K (.int .i64 n) := px (fun w => by kernel_rfl) K
@[push_cast] theorem ln_91 (ty : TypeId) (a : Option Addr) (n c : Nat) : PureX Tryd.prog (Builtin.len_ #[91] ty #[.slice a n c]) (tag K) = K (.int .i64 n) := px (fun w => by kernel_rfl) K
@[push_cast] theorem ln_95 (ty : TypeId) (a : Option Addr) (n c : Nat) : PureX Tryd.prog (Builtin.len_ #[95] ty #[.slice a n c]) (tag K) = K (.int .i64 n) := px (fun w => by kernel_rfl) K
@[push_cast] theorem ln_135 (ty : TypeId) (a : Option Addr) (n c : Nat) : PureX Tryd.prog (Builtin.len_ #[135] ty #[.slice a n c]) (tag K) = K (.int .i64 n) := px (fun w => by kernel_rfl) K
theorem us_9 : Tryd.prog.underlying 9 = some .string := by kernel_rfl
@[push_cast] theorem is_9 (l : List UInt8) (k : IntKind) (i : Int) (h0 : 0 ≤ i) (h1 : i < l.length) : PureX Tryd.prog (Instr.index 9 (.string ⟨l.toArray⟩) (.int k i)) (tag K) = K (.int .u8 (l.getD i.toNat 0).toNat) := idxStr l k us_9 i h0 h1
@[push_cast] theorem ssLoHi_9 (l : List UInt8) (k : IntKind) (i j : Int) (h0 : 0 ≤ i) (h1 : i ≤ j) (h2 : j ≤ l.length) : PureX Tryd.prog (Instr.sliceAt 9 (.string ⟨l.toArray⟩) (some (.int k i)) (some (.int k j)) none) (tag K) = K (str ((l.take j.toNat).drop i.toNat)) := slStr l k us_9 i j h0 h1 h2
@[push_cast] theorem ssLo_9 (l : List UInt8) (k : IntKind) (i : Int) (h0 : 0 ≤ i) (h1 : i ≤ l.length) : PureX Tryd.prog (Instr.sliceAt 9 (.string ⟨l.toArray⟩) (some (.int k i)) none none) (tag K) = K (str (l.drop i.toNat)) := slStrLo l k us_9 i h0 h1
@[push_cast] theorem ssHi_9 (l : List UInt8) (k : IntKind) (i : Int) (h0 : 0 ≤ i) (h1 : i ≤ l.length) : PureX Tryd.prog (Instr.sliceAt 9 (.string ⟨l.toArray⟩) none (some (.int k i)) none) (tag K) = K (str (l.take i.toNat)) := slStrHi l k us_9 i h0 h1
theorem ub_4 : Tryd.prog.underlying 4 = some .bool := by kernel_rfl
@[push_cast] theorem be_4 (x y : Operand) (a b : Bool) : PureX Tryd.prog (binV .eql 4 x y (.bool a) (.bool b)) (tag K) = K (.bool (a == b)) := bin_bool_eql x y ub_4 a b
@[push_cast] theorem bn_4 (x y : Operand) (a b : Bool) : PureX Tryd.prog (binV .neq 4 x y (.bool a) (.bool b)) (tag K) = K (.bool (a != b)) := bin_bool_neq x y ub_4 a b
@[push_cast] theorem bu_24_0 (x1 : Int) : PureX Tryd.prog (Instr.build 24 #[(0, .int .i64 x1)]) (tag K) = K (.agg #[.int .i64 x1, .int .i64 0, .int .i64 0, .int .i64 0, .slice none 0 0]) := px (fun w => by kernel_rfl) K
@[push_cast] theorem bu_26_0_2 (x2 : ByteArray) (x3 x4 x5 x6 : Int) (x7a : Option Addr) (x7n x7c : Nat) : PureX Tryd.prog (Instr.build 26 #[(0, .string x2), (2, .agg #[.int .i64 x3, .int .i64 x4, .int .i64 x5, .int .i64 x6, .slice x7a x7n x7c])]) (tag K) = K (.agg #[.string x2, .bool false, .int .i64 x3, .int .i64 x4, .int .i64 x5, .int .i64 x6, .slice x7a x7n x7c]) := px (fun w => by kernel_rfl) K
@[push_cast] theorem bu_29_  : PureX Tryd.prog (Instr.build 29 #[]) (tag K) = K (.agg #[.bool false, .int .i64 0, .string ⟨#[]⟩, .slice none 0 0]) := px (fun w => by kernel_rfl) K
@[push_cast] theorem bu_29_0 (x8 : Bool) : PureX Tryd.prog (Instr.build 29 #[(0, .bool x8)]) (tag K) = K (.agg #[.bool x8, .int .i64 0, .string ⟨#[]⟩, .slice none 0 0]) := px (fun w => by kernel_rfl) K
@[push_cast] theorem bu_29_1 (x9 : Int) : PureX Tryd.prog (Instr.build 29 #[(1, .int .i64 x9)]) (tag K) = K (.agg #[.bool false, .int .i64 x9, .string ⟨#[]⟩, .slice none 0 0]) := px (fun w => by kernel_rfl) K
@[push_cast] theorem bu_50_  : PureX Tryd.prog (Instr.build 50 #[]) (tag K) = K (.agg #[.slice none 0 0, .slice none 0 0, .slice none 0 0, .slice none 0 0]) := px (fun w => by kernel_rfl) K
@[push_cast] theorem bu_72_  : PureX Tryd.prog (Instr.build 72 #[]) (tag K) = K (.agg #[.int .i64 0, .slice none 0 0, .int .i64 0]) := px (fun w => by kernel_rfl) K
@[push_cast] theorem bu_72_0_1 (x10 : Int) (x11a : Option Addr) (x11n x11c : Nat) : PureX Tryd.prog (Instr.build 72 #[(0, .int .i64 x10), (1, .slice x11a x11n x11c)]) (tag K) = K (.agg #[.int .i64 x10, .slice x11a x11n x11c, .int .i64 0]) := px (fun w => by kernel_rfl) K
@[push_cast] theorem bu_72_0_2 (x12 x13 : Int) : PureX Tryd.prog (Instr.build 72 #[(0, .int .i64 x12), (2, .int .i64 x13)]) (tag K) = K (.agg #[.int .i64 x12, .slice none 0 0, .int .i64 x13]) := px (fun w => by kernel_rfl) K
@[push_cast] theorem bu_76_0 (x14 : Int) : PureX Tryd.prog (Instr.build 76 #[(0, .int .i64 x14)]) (tag K) = K (.agg #[.int .i64 x14]) := px (fun w => by kernel_rfl) K
@[push_cast] theorem bu_97_0 (x15a : Option Addr) (x15n x15c : Nat) : PureX Tryd.prog (Instr.build 97 #[(0, .slice x15a x15n x15c)]) (tag K) = K (.agg #[.slice x15a x15n x15c, .slice none 0 0]) := px (fun w => by kernel_rfl) K
@[push_cast] theorem bu_126_0_1_2_3 (x16a x17a x24a : Option Addr) (x16n x16c x17n x17c x24n x24c : Nat) (x18 : ByteArray) (x19 x25 : Bool) (x20 x21 x22 x23 : Int) : PureX Tryd.prog (Instr.build 126 #[(0, .slice x16a x16n x16c), (1, .slice x17a x17n x17c), (2, .agg #[.string x18, .bool x19, .int .i64 x20, .int .i64 x21, .int .i64 x22, .int .i64 x23, .slice x24a x24n x24c]), (3, .bool x25)]) (tag K) = K (.agg #[.slice x16a x16n x16c, .slice x17a x17n x17c, .string x18, .bool x19, .int .i64 x20, .int .i64 x21, .int .i64 x22, .int .i64 x23, .slice x24a x24n x24c, .bool x25]) := px (fun w => by kernel_rfl) K
@[push_cast] theorem bu_131_0_1 (x26 x27 : Int) : PureX Tryd.prog (Instr.build 131 #[(0, .int .u8 x26), (1, .int .u8 x27)]) (tag K) = K (.agg #[.int .u8 x26, .int .u8 x27]) := px (fun w => by kernel_rfl) K
@[push_cast] theorem bu_139_0_1_2_3 (x28a x35a x36a : Option Addr) (x28n x28c x35n x35c x36n x36c : Nat) (x29 : ByteArray) (x30 x37 : Bool) (x31 x32 x33 x34 : Int) : PureX Tryd.prog (Instr.build 139 #[(0, .slice x28a x28n x28c), (1, .agg #[.string x29, .bool x30, .int .i64 x31, .int .i64 x32, .int .i64 x33, .int .i64 x34, .slice x35a x35n x35c]), (2, .slice x36a x36n x36c), (3, .bool x37)]) (tag K) = K (.agg #[.slice x28a x28n x28c, .string x29, .bool x30, .int .i64 x31, .int .i64 x32, .int .i64 x33, .int .i64 x34, .slice x35a x35n x35c, .slice x36a x36n x36c, .bool x37]) := px (fun w => by kernel_rfl) K
@[push_cast] theorem bu_158_0_1_2_3 (x38 : ByteArray) (x39 x40 : Int) (x41 : Bool) : PureX Tryd.prog (Instr.build 158 #[(0, .string x38), (1, .int .i64 x39), (2, .int .i64 x40), (3, .bool x41)]) (tag K) = K (.agg #[.string x38, .int .i64 x39, .int .i64 x40, .bool x41]) := px (fun w => by kernel_rfl) K
@[push_cast] theorem fi_72_0 (x42 x44 : Int) (x43a : Option Addr) (x43n x43c : Nat) : PureX Tryd.prog (Instr.field 72 (.agg #[.int .i64 x42, .slice x43a x43n x43c, .int .i64 x44]) 0) (tag K) = K (.int .i64 x42) := px (fun w => by kernel_rfl) K
@[push_cast] theorem mi_9 (x : Value) : PureX Tryd.prog (Instr.makeInterface 9 x) (tag K) = K (.iface 9 x) := px (fun w => by kernel_rfl) K
@[push_cast] theorem cv_2_36 (n : Int) : PureX Tryd.prog (convert 2 36 (.int .i64 n)) (tag K) = K (.int .u64 (IntKind.u64.wrap n)) := px (fun w => by kernel_rfl) K
@[push_cast] theorem cv_3_36 (n : Int) : PureX Tryd.prog (convert 3 36 (.int .i64 n)) (tag K) = K (.int .u64 (IntKind.u64.wrap n)) := px (fun w => by kernel_rfl) K
@[push_cast] theorem cv_3_104 (n : Int) : PureX Tryd.prog (convert 3 104 (.int .i64 n)) (tag K) = K (.int .u64 (IntKind.u64.wrap n)) := px (fun w => by kernel_rfl) K
@[push_cast] theorem cv_5_3 (n : Int) : PureX Tryd.prog (convert 5 3 (.int .u8 n)) (tag K) = K (.int .i64 (IntKind.i64.wrap n)) := px (fun w => by kernel_rfl) K
@[push_cast] theorem cv_5_12 (n : Int) : PureX Tryd.prog (convert 5 12 (.int .u8 n)) (tag K) = K (.int .u64 (IntKind.u64.wrap n)) := px (fun w => by kernel_rfl) K
@[push_cast] theorem cv_5_36 (n : Int) : PureX Tryd.prog (convert 5 36 (.int .u8 n)) (tag K) = K (.int .u64 (IntKind.u64.wrap n)) := px (fun w => by kernel_rfl) K
@[push_cast] theorem cv_5_59 (n : Int) : PureX Tryd.prog (convert 5 59 (.int .u8 n)) (tag K) = K (.int .u64 (IntKind.u64.wrap n)) := px (fun w => by kernel_rfl) K
@[push_cast] theorem cv_36_5 (n : Int) : PureX Tryd.prog (convert 36 5 (.int .u64 n)) (tag K) = K (.int .u8 (IntKind.u8.wrap n)) := px (fun w => by kernel_rfl) K
@[push_cast] theorem cv_36_141 (n : Int) : PureX Tryd.prog (convert 36 141 (.int .u64 n)) (tag K) = K (.int .u32 (IntKind.u32.wrap n)) := px (fun w => by kernel_rfl) K
@[push_cast] theorem cv_104_3 (n : Int) : PureX Tryd.prog (convert 104 3 (.int .u64 n)) (tag K) = K (.int .i64 (IntKind.i64.wrap n)) := px (fun w => by kernel_rfl) K
@[push_cast] theorem cv_104_141 (n : Int) : PureX Tryd.prog (convert 104 141 (.int .u64 n)) (tag K) = K (.int .u32 (IntKind.u32.wrap n)) := px (fun w => by kernel_rfl) K
@[push_cast] theorem cv_141_36 (n : Int) : PureX Tryd.prog (convert 141 36 (.int .u32 n)) (tag K) = K (.int .u64 (IntKind.u64.wrap n)) := px (fun w => by kernel_rfl) K
@[push_cast] theorem cv_141_104 (n : Int) : PureX Tryd.prog (convert 141 104 (.int .u32 n)) (tag K) = K (.int .u64 (IntKind.u64.wrap n)) := px (fun w => by kernel_rfl) K
theorem bs_22_1 {y45 : ByteArray} {y46 : Bool} {y47 y48 y49 y50 : Int} {y51a : Option Addr} {y51n y51c : Nat} {wb : World} {L : Own} {K : Value → World → Own → Prop} (h : NewX wb L (.cells #[.string y45, .bool y46, .int .i64 y47, .int .i64 y48, .int .i64 y49, .int .i64 y50, .slice y51a y51n y51c] 26 (0, 0)) (tag fun b L => K (.slice (some ⟨b, 0, none⟩) 1 1) wb L)) : ValX Tryd.prog (Instr.buildSlice 22 1 #[(0, .agg #[.string y45, .bool y46, .int .i64 y47, .int .i64 y48, .int .i64 y49, .int .i64 y50, .slice y51a y51n y51c])]) wb L (tag K) := valX_new (fun w => by kernel_rfl) h
theorem bs_22_2 {y52 y59 : ByteArray} {y53 y60 : Bool} {y54 y55 y56 y57 y61 y62 y63 y64 : Int} {y58a y65a : Option Addr} {y58n y58c y65n y65c : Nat} {wb : World} {L : Own} {K : Value → World → Own → Prop} (h : NewX wb L (.cells #[.string y52, .bool y53, .int .i64 y54, .int .i64 y55, .int .i64 y56, .int .i64 y57, .slice y58a y58n y58c, .string y59, .bool y60, .int .i64 y61, .int .i64 y62, .int .i64 y63, .int .i64 y64, .slice y65a y65n y65c] 26 (0, 0)) (tag fun b L => K (.slice (some ⟨b, 0, none⟩) 2 2) wb L)) : ValX Tryd.prog (Instr.buildSlice 22 2 #[(0, .agg #[.string y52, .bool y53, .int .i64 y54, .int .i64 y55, .int .i64 y56, .int .i64 y57, .slice y58a y58n y58c]), (1, .agg #[.string y59, .bool y60, .int .i64 y61, .int .i64 y62, .int .i64 y63, .int .i64 y64, .slice y65a y65n y65c])]) wb L (tag K) := valX_new (fun w => by kernel_rfl) h
theorem bs_22_3 {y66 y73 y80 : ByteArray} {y67 y74 y81 : Bool} {y68 y69 y70 y71 y75 y76 y77 y78 y82 y83 y84 y85 : Int} {y72a y79a y86a : Option Addr} {y72n y72c y79n y79c y86n y86c : Nat} {wb : World} {L : Own} {K : Value → World → Own → Prop} (h : NewX wb L (.cells #[.string y66, .bool y67, .int .i64 y68, .int .i64 y69, .int .i64 y70, .int .i64 y71, .slice y72a y72n y72c, .string y73, .bool y74, .int .i64 y75, .int .i64 y76, .int .i64 y77, .int .i64 y78, .slice y79a y79n y79c, .string y80, .bool y81, .int .i64 y82, .int .i64 y83, .int .i64 y84, .int .i64 y85, .slice y86a y86n y86c] 26 (0, 0)) (tag fun b L => K (.slice (some ⟨b, 0, none⟩) 3 3) wb L)) : ValX Tryd.prog (Instr.buildSlice 22 3 #[(0, .agg #[.string y66, .bool y67, .int .i64 y68, .int .i64 y69, .int .i64 y70, .int .i64 y71, .slice y72a y72n y72c]), (1, .agg #[.string y73, .bool y74, .int .i64 y75, .int .i64 y76, .int .i64 y77, .int .i64 y78, .slice y79a y79n y79c]), (2, .agg #[.string y80, .bool y81, .int .i64 y82, .int .i64 y83, .int .i64 y84, .int .i64 y85, .slice y86a y86n y86c])]) wb L (tag K) := valX_new (fun w => by kernel_rfl) h
theorem bs_27_1 {y87 : Bool} {y88 : Int} {y89 : ByteArray} {y90a : Option Addr} {y90n y90c : Nat} {wb : World} {L : Own} {K : Value → World → Own → Prop} (h : NewX wb L (.cells #[.bool y87, .int .i64 y88, .string y89, .slice y90a y90n y90c] 29 (0, 0)) (tag fun b L => K (.slice (some ⟨b, 0, none⟩) 1 1) wb L)) : ValX Tryd.prog (Instr.buildSlice 27 1 #[(0, .agg #[.bool y87, .int .i64 y88, .string y89, .slice y90a y90n y90c])]) wb L (tag K) := valX_new (fun w => by kernel_rfl) h
theorem bs_27_2 {y91 y95 : Bool} {y92 y96 : Int} {y93 y97 : ByteArray} {y94a y98a : Option Addr} {y94n y94c y98n y98c : Nat} {wb : World} {L : Own} {K : Value → World → Own → Prop} (h : NewX wb L (.cells #[.bool y91, .int .i64 y92, .string y93, .slice y94a y94n y94c, .bool y95, .int .i64 y96, .string y97, .slice y98a y98n y98c] 29 (0, 0)) (tag fun b L => K (.slice (some ⟨b, 0, none⟩) 2 2) wb L)) : ValX Tryd.prog (Instr.buildSlice 27 2 #[(0, .agg #[.bool y91, .int .i64 y92, .string y93, .slice y94a y94n y94c]), (1, .agg #[.bool y95, .int .i64 y96, .string y97, .slice y98a y98n y98c])]) wb L (tag K) := valX_new (fun w => by kernel_rfl) h
theorem bs_27_3 {y99 y103 y107 : Bool} {y100 y104 y108 : Int} {y101 y105 y109 : ByteArray} {y102a y106a y110a : Option Addr} {y102n y102c y106n y106c y110n y110c : Nat} {wb : World} {L : Own} {K : Value → World → Own → Prop} (h : NewX wb L (.cells #[.bool y99, .int .i64 y100, .string y101, .slice y102a y102n y102c, .bool y103, .int .i64 y104, .string y105, .slice y106a y106n y106c, .bool y107, .int .i64 y108, .string y109, .slice y110a y110n y110c] 29 (0, 0)) (tag fun b L => K (.slice (some ⟨b, 0, none⟩) 3 3) wb L)) : ValX Tryd.prog (Instr.buildSlice 27 3 #[(0, .agg #[.bool y99, .int .i64 y100, .string y101, .slice y102a y102n y102c]), (1, .agg #[.bool y103, .int .i64 y104, .string y105, .slice y106a y106n y106c]), (2, .agg #[.bool y107, .int .i64 y108, .string y109, .slice y110a y110n y110c])]) wb L (tag K) := valX_new (fun w => by kernel_rfl) h
theorem bs_47_1 {y111a : Option Addr} {y111n y111c : Nat} {wb : World} {L : Own} {K : Value → World → Own → Prop} (h : NewX wb L (.cells #[.slice y111a y111n y111c] 27 (0, 0)) (tag fun b L => K (.slice (some ⟨b, 0, none⟩) 1 1) wb L)) : ValX Tryd.prog (Instr.buildSlice 47 1 #[(0, .slice y111a y111n y111c)]) wb L (tag K) := valX_new (fun w => by kernel_rfl) h
theorem bs_47_2 {y112a y113a : Option Addr} {y112n y112c y113n y113c : Nat} {wb : World} {L : Own} {K : Value → World → Own → Prop} (h : NewX wb L (.cells #[.slice y112a y112n y112c, .slice y113a y113n y113c] 27 (0, 0)) (tag fun b L => K (.slice (some ⟨b, 0, none⟩) 2 2) wb L)) : ValX Tryd.prog (Instr.buildSlice 47 2 #[(0, .slice y112a y112n y112c), (1, .slice y113a y113n y113c)]) wb L (tag K) := valX_new (fun w => by kernel_rfl) h
theorem bs_47_3 {y114a y115a y116a : Option Addr} {y114n y114c y115n y115c y116n y116c : Nat} {wb : World} {L : Own} {K : Value → World → Own → Prop} (h : NewX wb L (.cells #[.slice y114a y114n y114c, .slice y115a y115n y115c, .slice y116a y116n y116c] 27 (0, 0)) (tag fun b L => K (.slice (some ⟨b, 0, none⟩) 3 3) wb L)) : ValX Tryd.prog (Instr.buildSlice 47 3 #[(0, .slice y114a y114n y114c), (1, .slice y115a y115n y115c), (2, .slice y116a y116n y116c)]) wb L (tag K) := valX_new (fun w => by kernel_rfl) h
theorem bs_48_1 {y117a : Option Addr} {y117n y117c : Nat} {wb : World} {L : Own} {K : Value → World → Own → Prop} (h : NewX wb L (.cells #[.slice y117a y117n y117c] 67 (0, 0)) (tag fun b L => K (.slice (some ⟨b, 0, none⟩) 1 1) wb L)) : ValX Tryd.prog (Instr.buildSlice 48 1 #[(0, .slice y117a y117n y117c)]) wb L (tag K) := valX_new (fun w => by kernel_rfl) h
theorem bs_48_2 {y118a y119a : Option Addr} {y118n y118c y119n y119c : Nat} {wb : World} {L : Own} {K : Value → World → Own → Prop} (h : NewX wb L (.cells #[.slice y118a y118n y118c, .slice y119a y119n y119c] 67 (0, 0)) (tag fun b L => K (.slice (some ⟨b, 0, none⟩) 2 2) wb L)) : ValX Tryd.prog (Instr.buildSlice 48 2 #[(0, .slice y118a y118n y118c), (1, .slice y119a y119n y119c)]) wb L (tag K) := valX_new (fun w => by kernel_rfl) h
theorem bs_48_3 {y120a y121a y122a : Option Addr} {y120n y120c y121n y121c y122n y122c : Nat} {wb : World} {L : Own} {K : Value → World → Own → Prop} (h : NewX wb L (.cells #[.slice y120a y120n y120c, .slice y121a y121n y121c, .slice y122a y122n y122c] 67 (0, 0)) (tag fun b L => K (.slice (some ⟨b, 0, none⟩) 3 3) wb L)) : ValX Tryd.prog (Instr.buildSlice 48 3 #[(0, .slice y120a y120n y120c), (1, .slice y121a y121n y121c), (2, .slice y122a y122n y122c)]) wb L (tag K) := valX_new (fun w => by kernel_rfl) h
theorem bs_67_1 {y123 : Int} {wb : World} {L : Own} {K : Value → World → Own → Prop} (h : NewX wb L (.cells #[.int .i64 y123] 3 (0, 0)) (tag fun b L => K (.slice (some ⟨b, 0, none⟩) 1 1) wb L)) : ValX Tryd.prog (Instr.buildSlice 67 1 #[(0, .int .i64 y123)]) wb L (tag K) := valX_new (fun w => by kernel_rfl) h
theorem bs_67_2 {y124 y125 : Int} {wb : World} {L : Own} {K : Value → World → Own → Prop} (h : NewX wb L (.cells #[.int .i64 y124, .int .i64 y125] 3 (0, 0)) (tag fun b L => K (.slice (some ⟨b, 0, none⟩) 2 2) wb L)) : ValX Tryd.prog (Instr.buildSlice 67 2 #[(0, .int .i64 y124), (1, .int .i64 y125)]) wb L (tag K) := valX_new (fun w => by kernel_rfl) h
theorem bs_67_3 {y126 y127 y128 : Int} {wb : World} {L : Own} {K : Value → World → Own → Prop} (h : NewX wb L (.cells #[.int .i64 y126, .int .i64 y127, .int .i64 y128] 3 (0, 0)) (tag fun b L => K (.slice (some ⟨b, 0, none⟩) 3 3) wb L)) : ValX Tryd.prog (Instr.buildSlice 67 3 #[(0, .int .i64 y126), (1, .int .i64 y127), (2, .int .i64 y128)]) wb L (tag K) := valX_new (fun w => by kernel_rfl) h
theorem bs_135_1 {y129a y136a y137a : Option Addr} {y129n y129c y136n y136c y137n y137c : Nat} {y130 : ByteArray} {y131 y138 : Bool} {y132 y133 y134 y135 : Int} {wb : World} {L : Own} {K : Value → World → Own → Prop} (h : NewX wb L (.cells #[.slice y129a y129n y129c, .string y130, .bool y131, .int .i64 y132, .int .i64 y133, .int .i64 y134, .int .i64 y135, .slice y136a y136n y136c, .slice y137a y137n y137c, .bool y138] 139 (0, 0)) (tag fun b L => K (.slice (some ⟨b, 0, none⟩) 1 1) wb L)) : ValX Tryd.prog (Instr.buildSlice 135 1 #[(0, .agg #[.slice y129a y129n y129c, .string y130, .bool y131, .int .i64 y132, .int .i64 y133, .int .i64 y134, .int .i64 y135, .slice y136a y136n y136c, .slice y137a y137n y137c, .bool y138])]) wb L (tag K) := valX_new (fun w => by kernel_rfl) h
theorem bs_135_2 {y139a y146a y147a y149a y156a y157a : Option Addr} {y139n y139c y146n y146c y147n y147c y149n y149c y156n y156c y157n y157c : Nat} {y140 y150 : ByteArray} {y141 y148 y151 y158 : Bool} {y142 y143 y144 y145 y152 y153 y154 y155 : Int} {wb : World} {L : Own} {K : Value → World → Own → Prop} (h : NewX wb L (.cells #[.slice y139a y139n y139c, .string y140, .bool y141, .int .i64 y142, .int .i64 y143, .int .i64 y144, .int .i64 y145, .slice y146a y146n y146c, .slice y147a y147n y147c, .bool y148, .slice y149a y149n y149c, .string y150, .bool y151, .int .i64 y152, .int .i64 y153, .int .i64 y154, .int .i64 y155, .slice y156a y156n y156c, .slice y157a y157n y157c, .bool y158] 139 (0, 0)) (tag fun b L => K (.slice (some ⟨b, 0, none⟩) 2 2) wb L)) : ValX Tryd.prog (Instr.buildSlice 135 2 #[(0, .agg #[.slice y139a y139n y139c, .string y140, .bool y141, .int .i64 y142, .int .i64 y143, .int .i64 y144, .int .i64 y145, .slice y146a y146n y146c, .slice y147a y147n y147c, .bool y148]), (1, .agg #[.slice y149a y149n y149c, .string y150, .bool y151, .int .i64 y152, .int .i64 y153, .int .i64 y154, .int .i64 y155, .slice y156a y156n y156c, .slice y157a y157n y157c, .bool y158])]) wb L (tag K) := valX_new (fun w => by kernel_rfl) h
theorem bs_135_3 {y159a y166a y167a y169a y176a y177a y179a y186a y187a : Option Addr} {y159n y159c y166n y166c y167n y167c y169n y169c y176n y176c y177n y177c y179n y179c y186n y186c y187n y187c : Nat} {y160 y170 y180 : ByteArray} {y161 y168 y171 y178 y181 y188 : Bool} {y162 y163 y164 y165 y172 y173 y174 y175 y182 y183 y184 y185 : Int} {wb : World} {L : Own} {K : Value → World → Own → Prop} (h : NewX wb L (.cells #[.slice y159a y159n y159c, .string y160, .bool y161, .int .i64 y162, .int .i64 y163, .int .i64 y164, .int .i64 y165, .slice y166a y166n y166c, .slice y167a y167n y167c, .bool y168, .slice y169a y169n y169c, .string y170, .bool y171, .int .i64 y172, .int .i64 y173, .int .i64 y174, .int .i64 y175, .slice y176a y176n y176c, .slice y177a y177n y177c, .bool y178, .slice y179a y179n y179c, .string y180, .bool y181, .int .i64 y182, .int .i64 y183, .int .i64 y184, .int .i64 y185, .slice y186a y186n y186c, .slice y187a y187n y187c, .bool y188] 139 (0, 0)) (tag fun b L => K (.slice (some ⟨b, 0, none⟩) 3 3) wb L)) : ValX Tryd.prog (Instr.buildSlice 135 3 #[(0, .agg #[.slice y159a y159n y159c, .string y160, .bool y161, .int .i64 y162, .int .i64 y163, .int .i64 y164, .int .i64 y165, .slice y166a y166n y166c, .slice y167a y167n y167c, .bool y168]), (1, .agg #[.slice y169a y169n y169c, .string y170, .bool y171, .int .i64 y172, .int .i64 y173, .int .i64 y174, .int .i64 y175, .slice y176a y176n y176c, .slice y177a y177n y177c, .bool y178]), (2, .agg #[.slice y179a y179n y179c, .string y180, .bool y181, .int .i64 y182, .int .i64 y183, .int .i64 y184, .int .i64 y185, .slice y186a y186n y186c, .slice y187a y187n y187c, .bool y188])]) wb L (tag K) := valX_new (fun w => by kernel_rfl) h
theorem en_6 : entersB Tryd.prog 6 = true := entersB_of Tryd.func6 (by kernel_rfl)
theorem en_7 : entersB Tryd.prog 7 = true := entersB_of Tryd.func7 (by kernel_rfl)
theorem en_8 : entersB Tryd.prog 8 = true := entersB_of Tryd.func8 (by kernel_rfl)
theorem en_9 : entersB Tryd.prog 9 = true := entersB_of Tryd.func9 (by kernel_rfl)
theorem en_10 : entersB Tryd.prog 10 = true := entersB_of Tryd.func10 (by kernel_rfl)
theorem en_11 : entersB Tryd.prog 11 = true := entersB_of Tryd.func11 (by kernel_rfl)
theorem en_12 : entersB Tryd.prog 12 = true := entersB_of Tryd.func12 (by kernel_rfl)
theorem en_13 : entersB Tryd.prog 13 = true := entersB_of Tryd.func13 (by kernel_rfl)
theorem en_14 : entersB Tryd.prog 14 = true := entersB_of Tryd.func14 (by kernel_rfl)
theorem en_15 : entersB Tryd.prog 15 = true := entersB_of Tryd.func15 (by kernel_rfl)
theorem en_16 : entersB Tryd.prog 16 = true := entersB_of Tryd.func16 (by kernel_rfl)
theorem en_17 : entersB Tryd.prog 17 = true := entersB_of Tryd.func17 (by kernel_rfl)
theorem en_18 : entersB Tryd.prog 18 = true := entersB_of Tryd.func18 (by kernel_rfl)
theorem en_19 : entersB Tryd.prog 19 = true := entersB_of Tryd.func19 (by kernel_rfl)
theorem en_20 : entersB Tryd.prog 20 = true := entersB_of Tryd.func20 (by kernel_rfl)
theorem en_21 : entersB Tryd.prog 21 = true := entersB_of Tryd.func21 (by kernel_rfl)
theorem en_22 : entersB Tryd.prog 22 = true := entersB_of Tryd.func22 (by kernel_rfl)
theorem en_23 : entersB Tryd.prog 23 = true := entersB_of Tryd.func23 (by kernel_rfl)
theorem en_24 : entersB Tryd.prog 24 = true := entersB_of Tryd.func24 (by kernel_rfl)
theorem en_25 : entersB Tryd.prog 25 = true := entersB_of Tryd.func25 (by kernel_rfl)
theorem en_26 : entersB Tryd.prog 26 = true := entersB_of Tryd.func26 (by kernel_rfl)
theorem en_27 : entersB Tryd.prog 27 = true := entersB_of Tryd.func27 (by kernel_rfl)
theorem en_28 : entersB Tryd.prog 28 = true := entersB_of Tryd.func28 (by kernel_rfl)
theorem en_29 : entersB Tryd.prog 29 = true := entersB_of Tryd.func29 (by kernel_rfl)
theorem en_30 : entersB Tryd.prog 30 = true := entersB_of Tryd.func30 (by kernel_rfl)
theorem en_31 : entersB Tryd.prog 31 = true := entersB_of Tryd.func31 (by kernel_rfl)
theorem en_32 : entersB Tryd.prog 32 = true := entersB_of Tryd.func32 (by kernel_rfl)
theorem en_33 : entersB Tryd.prog 33 = true := entersB_of Tryd.func33 (by kernel_rfl)
theorem en_34 : entersB Tryd.prog 34 = true := entersB_of Tryd.func34 (by kernel_rfl)
theorem en_35 : entersB Tryd.prog 35 = true := entersB_of Tryd.func35 (by kernel_rfl)
theorem en_36 : entersB Tryd.prog 36 = true := entersB_of Tryd.func36 (by kernel_rfl)
theorem en_37 : entersB Tryd.prog 37 = true := entersB_of Tryd.func37 (by kernel_rfl)
theorem en_38 : entersB Tryd.prog 38 = true := entersB_of Tryd.func38 (by kernel_rfl)
theorem en_39 : entersB Tryd.prog 39 = true := entersB_of Tryd.func39 (by kernel_rfl)
theorem en_40 : entersB Tryd.prog 40 = true := entersB_of Tryd.func40 (by kernel_rfl)
theorem en_41 : entersB Tryd.prog 41 = true := entersB_of Tryd.func41 (by kernel_rfl)
theorem en_42 : entersB Tryd.prog 42 = true := entersB_of Tryd.func42 (by kernel_rfl)
theorem en_43 : entersB Tryd.prog 43 = true := entersB_of Tryd.func43 (by kernel_rfl)
theorem en_44 : entersB Tryd.prog 44 = true := entersB_of Tryd.func44 (by kernel_rfl)
theorem en_45 : entersB Tryd.prog 45 = true := entersB_of Tryd.func45 (by kernel_rfl)
theorem en_46 : entersB Tryd.prog 46 = true := entersB_of Tryd.func46 (by kernel_rfl)
theorem en_47 : entersB Tryd.prog 47 = true := entersB_of Tryd.func47 (by kernel_rfl)
theorem en_48 : entersB Tryd.prog 48 = true := entersB_of Tryd.func48 (by kernel_rfl)
theorem en_49 : entersB Tryd.prog 49 = true := entersB_of Tryd.func49 (by kernel_rfl)
theorem en_50 : entersB Tryd.prog 50 = true := entersB_of Tryd.func50 (by kernel_rfl)
theorem en_51 : entersB Tryd.prog 51 = true := entersB_of Tryd.func51 (by kernel_rfl)
theorem en_52 : entersB Tryd.prog 52 = true := entersB_of Tryd.func52 (by kernel_rfl)
theorem en_53 : entersB Tryd.prog 53 = true := entersB_of Tryd.func53 (by kernel_rfl)
theorem en_54 : entersB Tryd.prog 54 = true := entersB_of Tryd.func54 (by kernel_rfl)
theorem en_55 : entersB Tryd.prog 55 = true := entersB_of Tryd.func55 (by kernel_rfl)
theorem en_56 : entersB Tryd.prog 56 = true := entersB_of Tryd.func56 (by kernel_rfl)
theorem en_57 : entersB Tryd.prog 57 = true := entersB_of Tryd.func57 (by kernel_rfl)
theorem en_58 : entersB Tryd.prog 58 = true := entersB_of Tryd.func58 (by kernel_rfl)
theorem en_59 : entersB Tryd.prog 59 = true := entersB_of Tryd.func59 (by kernel_rfl)
theorem en_60 : entersB Tryd.prog 60 = true := entersB_of Tryd.func60 (by kernel_rfl)
theorem en_61 : entersB Tryd.prog 61 = true := entersB_of Tryd.func61 (by kernel_rfl)
theorem en_62 : entersB Tryd.prog 62 = true := entersB_of Tryd.func62 (by kernel_rfl)
theorem en_63 : entersB Tryd.prog 63 = true := entersB_of Tryd.func63 (by kernel_rfl)
theorem en_64 : entersB Tryd.prog 64 = true := entersB_of Tryd.func64 (by kernel_rfl)
theorem en_65 : entersB Tryd.prog 65 = true := entersB_of Tryd.func65 (by kernel_rfl)
theorem en_66 : entersB Tryd.prog 66 = true := entersB_of Tryd.func66 (by kernel_rfl)
theorem en_67 : entersB Tryd.prog 67 = true := entersB_of Tryd.func67 (by kernel_rfl)
theorem en_68 : entersB Tryd.prog 68 = true := entersB_of Tryd.func68 (by kernel_rfl)
theorem en_69 : entersB Tryd.prog 69 = true := entersB_of Tryd.func69 (by kernel_rfl)
theorem en_70 : entersB Tryd.prog 70 = true := entersB_of Tryd.func70 (by kernel_rfl)
theorem en_71 : entersB Tryd.prog 71 = true := entersB_of Tryd.func71 (by kernel_rfl)
theorem en_72 : entersB Tryd.prog 72 = true := entersB_of Tryd.func72 (by kernel_rfl)
theorem en_73 : entersB Tryd.prog 73 = true := entersB_of Tryd.func73 (by kernel_rfl)
theorem en_74 : entersB Tryd.prog 74 = true := entersB_of Tryd.func74 (by kernel_rfl)
theorem en_75 : entersB Tryd.prog 75 = true := entersB_of Tryd.func75 (by kernel_rfl)
theorem en_76 : entersB Tryd.prog 76 = true := entersB_of Tryd.func76 (by kernel_rfl)
theorem en_77 : entersB Tryd.prog 77 = true := entersB_of Tryd.func77 (by kernel_rfl)
theorem en_78 : entersB Tryd.prog 78 = true := entersB_of Tryd.func78 (by kernel_rfl)
theorem en_79 : entersB Tryd.prog 79 = true := entersB_of Tryd.func79 (by kernel_rfl)
theorem en_80 : entersB Tryd.prog 80 = true := entersB_of Tryd.func80 (by kernel_rfl)
theorem en_81 : entersB Tryd.prog 81 = true := entersB_of Tryd.func81 (by kernel_rfl)
theorem en_82 : entersB Tryd.prog 82 = true := entersB_of Tryd.func82 (by kernel_rfl)
theorem en_83 : entersB Tryd.prog 83 = true := entersB_of Tryd.func83 (by kernel_rfl)
theorem en_84 : entersB Tryd.prog 84 = true := entersB_of Tryd.func84 (by kernel_rfl)
theorem en_85 : entersB Tryd.prog 85 = true := entersB_of Tryd.func85 (by kernel_rfl)
theorem en_86 : entersB Tryd.prog 86 = true := entersB_of Tryd.func86 (by kernel_rfl)
theorem en_87 : entersB Tryd.prog 87 = true := entersB_of Tryd.func87 (by kernel_rfl)
theorem en_88 : entersB Tryd.prog 88 = true := entersB_of Tryd.func88 (by kernel_rfl)
theorem en_89 : entersB Tryd.prog 89 = true := entersB_of Tryd.func89 (by kernel_rfl)
theorem en_90 : entersB Tryd.prog 90 = true := entersB_of Tryd.func90 (by kernel_rfl)
theorem en_92 : entersB Tryd.prog 92 = true := entersB_of Tryd.func92 (by kernel_rfl)
theorem en_93 : entersB Tryd.prog 93 = true := entersB_of Tryd.func93 (by kernel_rfl)
theorem en_94 : entersB Tryd.prog 94 = true := entersB_of Tryd.func94 (by kernel_rfl)
theorem en_95 : entersB Tryd.prog 95 = true := entersB_of Tryd.func95 (by kernel_rfl)
theorem en_96 : entersB Tryd.prog 96 = true := entersB_of Tryd.func96 (by kernel_rfl)
theorem en_97 : entersB Tryd.prog 97 = true := entersB_of Tryd.func97 (by kernel_rfl)
theorem en_98 : entersB Tryd.prog 98 = true := entersB_of Tryd.func98 (by kernel_rfl)
theorem en_99 : entersB Tryd.prog 99 = true := entersB_of Tryd.func99 (by kernel_rfl)
theorem en_100 : entersB Tryd.prog 100 = true := entersB_of Tryd.func100 (by kernel_rfl)
theorem en_101 : entersB Tryd.prog 101 = true := entersB_of Tryd.func101 (by kernel_rfl)
theorem en_102 : entersB Tryd.prog 102 = true := entersB_of Tryd.func102 (by kernel_rfl)
theorem en_103 : entersB Tryd.prog 103 = true := entersB_of Tryd.func103 (by kernel_rfl)
theorem en_104 : entersB Tryd.prog 104 = true := entersB_of Tryd.func104 (by kernel_rfl)
theorem en_105 : entersB Tryd.prog 105 = true := entersB_of Tryd.func105 (by kernel_rfl)
theorem en_106 : entersB Tryd.prog 106 = true := entersB_of Tryd.func106 (by kernel_rfl)
theorem en_107 : entersB Tryd.prog 107 = true := entersB_of Tryd.func107 (by kernel_rfl)
theorem en_108 : entersB Tryd.prog 108 = true := entersB_of Tryd.func108 (by kernel_rfl)
theorem en_109 : entersB Tryd.prog 109 = true := entersB_of Tryd.func109 (by kernel_rfl)
theorem en_110 : entersB Tryd.prog 110 = true := entersB_of Tryd.func110 (by kernel_rfl)
theorem en_113 : entersB Tryd.prog 113 = true := entersB_of Tryd.func113 (by kernel_rfl)
theorem en_114 : entersB Tryd.prog 114 = true := entersB_of Tryd.func114 (by kernel_rfl)
theorem en_115 : entersB Tryd.prog 115 = true := entersB_of Tryd.func115 (by kernel_rfl)
theorem en_116 : entersB Tryd.prog 116 = true := entersB_of Tryd.func116 (by kernel_rfl)
end Go.Proofs.YtjkogfiidhjpcaaDoor
