/- Facts on the program of seat YtdmdgkpjjpijdaaDoor, for the walks: written by program (genfacts.py) off the translation's type table. -/
import Derived.Test.YtdmdgkpjjpijdaaDoorProg
import Derived.Test.YtdmdgkpjjpijdaaDoorKg
import Derived.KernelRfl

namespace Go.Proofs.YtdmdgkpjjpijdaaDoor
open Go Go.K
variable {K : Value → Prop}
theorem mixed : Tryd.prog.follows .mixedOrders = true := by kernel_rfl
@[push_cast] theorem fa_26_0 (b o : Nat) : PureX Tryd.prog (Instr.fieldAt 26 (.pointer (some ⟨b, o, none⟩)) 0) (tag K) = K (.pointer (some ⟨b, o, none⟩)) := px (fun w => by kernel_rfl) K
@[push_cast] theorem fa_26_1 (b o : Nat) : PureX Tryd.prog (Instr.fieldAt 26 (.pointer (some ⟨b, o, none⟩)) 1) (tag K) = K (.pointer (some ⟨b, o + 1, none⟩)) := px (fun w => by kernel_rfl) K
@[push_cast] theorem fa_32_0 (b o : Nat) : PureX Tryd.prog (Instr.fieldAt 32 (.pointer (some ⟨b, o, none⟩)) 0) (tag K) = K (.pointer (some ⟨b, o, none⟩)) := px (fun w => by kernel_rfl) K
@[push_cast] theorem fa_32_1 (b o : Nat) : PureX Tryd.prog (Instr.fieldAt 32 (.pointer (some ⟨b, o, none⟩)) 1) (tag K) = K (.pointer (some ⟨b, o + 1, none⟩)) := px (fun w => by kernel_rfl) K
@[push_cast] theorem fa_39_0 (b o : Nat) : PureX Tryd.prog (Instr.fieldAt 39 (.pointer (some ⟨b, o, none⟩)) 0) (tag K) = K (.pointer (some ⟨b, o, none⟩)) := px (fun w => by kernel_rfl) K
@[push_cast] theorem fa_39_1 (b o : Nat) : PureX Tryd.prog (Instr.fieldAt 39 (.pointer (some ⟨b, o, none⟩)) 1) (tag K) = K (.pointer (some ⟨b, o + 1, none⟩)) := px (fun w => by kernel_rfl) K
@[push_cast] theorem fa_39_2 (b o : Nat) : PureX Tryd.prog (Instr.fieldAt 39 (.pointer (some ⟨b, o, none⟩)) 2) (tag K) = K (.pointer (some ⟨b, o + 2, none⟩)) := px (fun w => by kernel_rfl) K
@[push_cast] theorem fa_39_3 (b o : Nat) : PureX Tryd.prog (Instr.fieldAt 39 (.pointer (some ⟨b, o, none⟩)) 3) (tag K) = K (.pointer (some ⟨b, o + 3, none⟩)) := px (fun w => by kernel_rfl) K
@[push_cast] theorem fa_39_4 (b o : Nat) : PureX Tryd.prog (Instr.fieldAt 39 (.pointer (some ⟨b, o, none⟩)) 4) (tag K) = K (.pointer (some ⟨b, o + 4, none⟩)) := px (fun w => by kernel_rfl) K
@[push_cast] theorem fa_41_0 (b o : Nat) : PureX Tryd.prog (Instr.fieldAt 41 (.pointer (some ⟨b, o, none⟩)) 0) (tag K) = K (.pointer (some ⟨b, o, none⟩)) := px (fun w => by kernel_rfl) K
@[push_cast] theorem fa_41_1 (b o : Nat) : PureX Tryd.prog (Instr.fieldAt 41 (.pointer (some ⟨b, o, none⟩)) 1) (tag K) = K (.pointer (some ⟨b, o + 1, none⟩)) := px (fun w => by kernel_rfl) K
@[push_cast] theorem fa_41_2 (b o : Nat) : PureX Tryd.prog (Instr.fieldAt 41 (.pointer (some ⟨b, o, none⟩)) 2) (tag K) = K (.pointer (some ⟨b, o + 2, none⟩)) := px (fun w => by kernel_rfl) K
@[push_cast] theorem fa_52_0 (b o : Nat) : PureX Tryd.prog (Instr.fieldAt 52 (.pointer (some ⟨b, o, none⟩)) 0) (tag K) = K (.pointer (some ⟨b, o, none⟩)) := px (fun w => by kernel_rfl) K
@[push_cast] theorem fa_56_0 (b o : Nat) : PureX Tryd.prog (Instr.fieldAt 56 (.pointer (some ⟨b, o, none⟩)) 0) (tag K) = K (.pointer (some ⟨b, o, none⟩)) := px (fun w => by kernel_rfl) K
@[push_cast] theorem fa_56_1 (b o : Nat) : PureX Tryd.prog (Instr.fieldAt 56 (.pointer (some ⟨b, o, none⟩)) 1) (tag K) = K (.pointer (some ⟨b, o + 1, none⟩)) := px (fun w => by kernel_rfl) K
@[push_cast] theorem fa_64_0 (b o : Nat) : PureX Tryd.prog (Instr.fieldAt 64 (.pointer (some ⟨b, o, none⟩)) 0) (tag K) = K (.pointer (some ⟨b, o, none⟩)) := px (fun w => by kernel_rfl) K
@[push_cast] theorem fa_64_1 (b o : Nat) : PureX Tryd.prog (Instr.fieldAt 64 (.pointer (some ⟨b, o, none⟩)) 1) (tag K) = K (.pointer (some ⟨b, o + 1, none⟩)) := px (fun w => by kernel_rfl) K
@[push_cast] theorem fa_70_0 (b o : Nat) : PureX Tryd.prog (Instr.fieldAt 70 (.pointer (some ⟨b, o, none⟩)) 0) (tag K) = K (.pointer (some ⟨b, o, none⟩)) := px (fun w => by kernel_rfl) K
@[push_cast] theorem fa_70_1 (b o : Nat) : PureX Tryd.prog (Instr.fieldAt 70 (.pointer (some ⟨b, o, none⟩)) 1) (tag K) = K (.pointer (some ⟨b, o + 1, none⟩)) := px (fun w => by kernel_rfl) K
@[push_cast] theorem fa_70_2 (b o : Nat) : PureX Tryd.prog (Instr.fieldAt 70 (.pointer (some ⟨b, o, none⟩)) 2) (tag K) = K (.pointer (some ⟨b, o + 2, none⟩)) := px (fun w => by kernel_rfl) K
@[push_cast] theorem fa_70_3 (b o : Nat) : PureX Tryd.prog (Instr.fieldAt 70 (.pointer (some ⟨b, o, none⟩)) 3) (tag K) = K (.pointer (some ⟨b, o + 9, none⟩)) := px (fun w => by kernel_rfl) K
@[push_cast] theorem fa_78_0 (b o : Nat) : PureX Tryd.prog (Instr.fieldAt 78 (.pointer (some ⟨b, o, none⟩)) 0) (tag K) = K (.pointer (some ⟨b, o, none⟩)) := px (fun w => by kernel_rfl) K
@[push_cast] theorem fa_78_1 (b o : Nat) : PureX Tryd.prog (Instr.fieldAt 78 (.pointer (some ⟨b, o, none⟩)) 1) (tag K) = K (.pointer (some ⟨b, o + 1, none⟩)) := px (fun w => by kernel_rfl) K
@[push_cast] theorem fa_104_0 (b o : Nat) : PureX Tryd.prog (Instr.fieldAt 104 (.pointer (some ⟨b, o, none⟩)) 0) (tag K) = K (.pointer (some ⟨b, o, none⟩)) := px (fun w => by kernel_rfl) K
@[push_cast] theorem fa_104_3 (b o : Nat) : PureX Tryd.prog (Instr.fieldAt 104 (.pointer (some ⟨b, o, none⟩)) 3) (tag K) = K (.pointer (some ⟨b, o + 3, none⟩)) := px (fun w => by kernel_rfl) K
@[push_cast] theorem sh_3 : shapeOf Tryd.prog 3 = some (false, 1) := by kernel_rfl
@[push_cast] theorem sz_3 : (Tryd.prog.info? 3).map (·.size) = some 1 := by kernel_rfl
instance : Shp Tryd.prog 3 false 1 := ⟨sh_3⟩
instance : Siz Tryd.prog 3 1 := ⟨sz_3⟩
@[push_cast] theorem sh_4 : shapeOf Tryd.prog 4 = some (false, 1) := by kernel_rfl
@[push_cast] theorem sz_4 : (Tryd.prog.info? 4).map (·.size) = some 1 := by kernel_rfl
instance : Shp Tryd.prog 4 false 1 := ⟨sh_4⟩
instance : Siz Tryd.prog 4 1 := ⟨sz_4⟩
@[push_cast] theorem sh_5 : shapeOf Tryd.prog 5 = some (false, 1) := by kernel_rfl
@[push_cast] theorem sz_5 : (Tryd.prog.info? 5).map (·.size) = some 1 := by kernel_rfl
instance : Shp Tryd.prog 5 false 1 := ⟨sh_5⟩
instance : Siz Tryd.prog 5 1 := ⟨sz_5⟩
@[push_cast] theorem sh_9 : shapeOf Tryd.prog 9 = some (false, 1) := by kernel_rfl
@[push_cast] theorem sz_9 : (Tryd.prog.info? 9).map (·.size) = some 1 := by kernel_rfl
instance : Shp Tryd.prog 9 false 1 := ⟨sh_9⟩
instance : Siz Tryd.prog 9 1 := ⟨sz_9⟩
@[push_cast] theorem sh_23 : shapeOf Tryd.prog 23 = some (false, 1) := by kernel_rfl
@[push_cast] theorem sz_23 : (Tryd.prog.info? 23).map (·.size) = some 1 := by kernel_rfl
instance : Shp Tryd.prog 23 false 1 := ⟨sh_23⟩
instance : Siz Tryd.prog 23 1 := ⟨sz_23⟩
@[push_cast] theorem sh_24 : shapeOf Tryd.prog 24 = some (false, 1) := by kernel_rfl
@[push_cast] theorem sz_24 : (Tryd.prog.info? 24).map (·.size) = some 1 := by kernel_rfl
instance : Shp Tryd.prog 24 false 1 := ⟨sh_24⟩
instance : Siz Tryd.prog 24 1 := ⟨sz_24⟩
@[push_cast] theorem sh_26 : shapeOf Tryd.prog 26 = some (true, 2) := by kernel_rfl
@[push_cast] theorem sz_26 : (Tryd.prog.info? 26).map (·.size) = some 2 := by kernel_rfl
instance : Shp Tryd.prog 26 true 2 := ⟨sh_26⟩
instance : Siz Tryd.prog 26 2 := ⟨sz_26⟩
@[push_cast] theorem sh_27 : shapeOf Tryd.prog 27 = some (false, 1) := by kernel_rfl
@[push_cast] theorem sz_27 : (Tryd.prog.info? 27).map (·.size) = some 1 := by kernel_rfl
instance : Shp Tryd.prog 27 false 1 := ⟨sh_27⟩
instance : Siz Tryd.prog 27 1 := ⟨sz_27⟩
@[push_cast] theorem sh_30 : shapeOf Tryd.prog 30 = some (false, 1) := by kernel_rfl
@[push_cast] theorem sz_30 : (Tryd.prog.info? 30).map (·.size) = some 1 := by kernel_rfl
instance : Shp Tryd.prog 30 false 1 := ⟨sh_30⟩
instance : Siz Tryd.prog 30 1 := ⟨sz_30⟩
@[push_cast] theorem sh_32 : shapeOf Tryd.prog 32 = some (true, 3) := by kernel_rfl
@[push_cast] theorem sz_32 : (Tryd.prog.info? 32).map (·.size) = some 3 := by kernel_rfl
instance : Shp Tryd.prog 32 true 3 := ⟨sh_32⟩
instance : Siz Tryd.prog 32 3 := ⟨sz_32⟩
@[push_cast] theorem sh_39 : shapeOf Tryd.prog 39 = some (true, 5) := by kernel_rfl
@[push_cast] theorem sz_39 : (Tryd.prog.info? 39).map (·.size) = some 5 := by kernel_rfl
instance : Shp Tryd.prog 39 true 5 := ⟨sh_39⟩
instance : Siz Tryd.prog 39 5 := ⟨sz_39⟩
@[push_cast] theorem sh_41 : shapeOf Tryd.prog 41 = some (true, 7) := by kernel_rfl
@[push_cast] theorem sz_41 : (Tryd.prog.info? 41).map (·.size) = some 7 := by kernel_rfl
instance : Shp Tryd.prog 41 true 7 := ⟨sh_41⟩
instance : Siz Tryd.prog 41 7 := ⟨sz_41⟩
@[push_cast] theorem sh_52 : shapeOf Tryd.prog 52 = some (true, 1) := by kernel_rfl
@[push_cast] theorem sz_52 : (Tryd.prog.info? 52).map (·.size) = some 1 := by kernel_rfl
instance : Shp Tryd.prog 52 true 1 := ⟨sh_52⟩
instance : Siz Tryd.prog 52 1 := ⟨sz_52⟩
@[push_cast] theorem sh_56 : shapeOf Tryd.prog 56 = some (true, 2) := by kernel_rfl
@[push_cast] theorem sz_56 : (Tryd.prog.info? 56).map (·.size) = some 2 := by kernel_rfl
instance : Shp Tryd.prog 56 true 2 := ⟨sh_56⟩
instance : Siz Tryd.prog 56 2 := ⟨sz_56⟩
@[push_cast] theorem sh_57 : shapeOf Tryd.prog 57 = some (false, 1) := by kernel_rfl
@[push_cast] theorem sz_57 : (Tryd.prog.info? 57).map (·.size) = some 1 := by kernel_rfl
instance : Shp Tryd.prog 57 false 1 := ⟨sh_57⟩
instance : Siz Tryd.prog 57 1 := ⟨sz_57⟩
@[push_cast] theorem sh_64 : shapeOf Tryd.prog 64 = some (true, 2) := by kernel_rfl
@[push_cast] theorem sz_64 : (Tryd.prog.info? 64).map (·.size) = some 2 := by kernel_rfl
instance : Shp Tryd.prog 64 true 2 := ⟨sh_64⟩
instance : Siz Tryd.prog 64 2 := ⟨sz_64⟩
@[push_cast] theorem sh_65 : shapeOf Tryd.prog 65 = some (false, 1) := by kernel_rfl
@[push_cast] theorem sz_65 : (Tryd.prog.info? 65).map (·.size) = some 1 := by kernel_rfl
instance : Shp Tryd.prog 65 false 1 := ⟨sh_65⟩
instance : Siz Tryd.prog 65 1 := ⟨sz_65⟩
@[push_cast] theorem sh_70 : shapeOf Tryd.prog 70 = some (true, 10) := by kernel_rfl
@[push_cast] theorem sz_70 : (Tryd.prog.info? 70).map (·.size) = some 10 := by kernel_rfl
instance : Shp Tryd.prog 70 true 10 := ⟨sh_70⟩
instance : Siz Tryd.prog 70 10 := ⟨sz_70⟩
@[push_cast] theorem sh_78 : shapeOf Tryd.prog 78 = some (true, 2) := by kernel_rfl
@[push_cast] theorem sz_78 : (Tryd.prog.info? 78).map (·.size) = some 2 := by kernel_rfl
instance : Shp Tryd.prog 78 true 2 := ⟨sh_78⟩
instance : Siz Tryd.prog 78 2 := ⟨sz_78⟩
@[push_cast] theorem sh_86 : shapeOf Tryd.prog 86 = some (false, 1) := by kernel_rfl
@[push_cast] theorem sz_86 : (Tryd.prog.info? 86).map (·.size) = some 1 := by kernel_rfl
instance : Shp Tryd.prog 86 false 1 := ⟨sh_86⟩
instance : Siz Tryd.prog 86 1 := ⟨sz_86⟩
@[push_cast] theorem sh_87 : shapeOf Tryd.prog 87 = some (false, 1) := by kernel_rfl
@[push_cast] theorem sz_87 : (Tryd.prog.info? 87).map (·.size) = some 1 := by kernel_rfl
instance : Shp Tryd.prog 87 false 1 := ⟨sh_87⟩
instance : Siz Tryd.prog 87 1 := ⟨sz_87⟩
@[push_cast] theorem sh_105 : shapeOf Tryd.prog 105 = some (true, 84) := by kernel_rfl
@[push_cast] theorem sz_105 : (Tryd.prog.info? 105).map (·.size) = some 84 := by kernel_rfl
instance : Shp Tryd.prog 105 true 84 := ⟨sh_105⟩
instance : Siz Tryd.prog 105 84 := ⟨sz_105⟩
@[push_cast] theorem sh_110 : shapeOf Tryd.prog 110 = some (false, 1) := by kernel_rfl
@[push_cast] theorem sz_110 : (Tryd.prog.info? 110).map (·.size) = some 1 := by kernel_rfl
instance : Shp Tryd.prog 110 false 1 := ⟨sh_110⟩
instance : Siz Tryd.prog 110 1 := ⟨sz_110⟩
@[push_cast] theorem sh_114 : shapeOf Tryd.prog 114 = some (false, 1) := by kernel_rfl
@[push_cast] theorem sz_114 : (Tryd.prog.info? 114).map (·.size) = some 1 := by kernel_rfl
instance : Shp Tryd.prog 114 false 1 := ⟨sh_114⟩
instance : Siz Tryd.prog 114 1 := ⟨sz_114⟩
@[push_cast] theorem sh_117 : shapeOf Tryd.prog 117 = some (true, 24) := by kernel_rfl
@[push_cast] theorem sz_117 : (Tryd.prog.info? 117).map (·.size) = some 24 := by kernel_rfl
instance : Shp Tryd.prog 117 true 24 := ⟨sh_117⟩
instance : Siz Tryd.prog 117 24 := ⟨sz_117⟩
@[push_cast] theorem sh_131 : shapeOf Tryd.prog 131 = some (true, 20) := by kernel_rfl
@[push_cast] theorem sz_131 : (Tryd.prog.info? 131).map (·.size) = some 20 := by kernel_rfl
instance : Shp Tryd.prog 131 true 20 := ⟨sh_131⟩
instance : Siz Tryd.prog 131 20 := ⟨sz_131⟩
@[push_cast] theorem sh_133 : shapeOf Tryd.prog 133 = some (true, 65) := by kernel_rfl
@[push_cast] theorem sz_133 : (Tryd.prog.info? 133).map (·.size) = some 65 := by kernel_rfl
instance : Shp Tryd.prog 133 true 65 := ⟨sh_133⟩
instance : Siz Tryd.prog 133 65 := ⟨sz_133⟩
@[push_cast] theorem sh_139 : shapeOf Tryd.prog 139 = some (true, 3) := by kernel_rfl
@[push_cast] theorem sz_139 : (Tryd.prog.info? 139).map (·.size) = some 3 := by kernel_rfl
instance : Shp Tryd.prog 139 true 3 := ⟨sh_139⟩
instance : Siz Tryd.prog 139 3 := ⟨sz_139⟩
@[push_cast] theorem sh_146 : shapeOf Tryd.prog 146 = some (true, 1) := by kernel_rfl
@[push_cast] theorem sz_146 : (Tryd.prog.info? 146).map (·.size) = some 1 := by kernel_rfl
instance : Shp Tryd.prog 146 true 1 := ⟨sh_146⟩
instance : Siz Tryd.prog 146 1 := ⟨sz_146⟩
@[push_cast] theorem sh_147 : shapeOf Tryd.prog 147 = some (true, 32) := by kernel_rfl
@[push_cast] theorem sz_147 : (Tryd.prog.info? 147).map (·.size) = some 32 := by kernel_rfl
instance : Shp Tryd.prog 147 true 32 := ⟨sh_147⟩
instance : Siz Tryd.prog 147 32 := ⟨sz_147⟩
@[push_cast] theorem sh_148 : shapeOf Tryd.prog 148 = some (true, 64) := by kernel_rfl
@[push_cast] theorem sz_148 : (Tryd.prog.info? 148).map (·.size) = some 64 := by kernel_rfl
instance : Shp Tryd.prog 148 true 64 := ⟨sh_148⟩
instance : Siz Tryd.prog 148 64 := ⟨sz_148⟩
@[push_cast] theorem al_3 (wb : World) (L : Own) (K : Value → Own → Prop) : AllocX Tryd.prog 3 wb L (tag K) = NewX wb L (.cells #[.int .i64 0] 3 (0, 0)) (tag fun b L => K (.pointer (some ⟨b, 0, none⟩)) L) := allocX_eq (z := .int .i64 0) (by kernel_rfl) wb L K
@[push_cast] theorem al_26 (wb : World) (L : Own) (K : Value → Own → Prop) : AllocX Tryd.prog 26 wb L (tag K) = NewX wb L (.cells #[.slice none 0 0, .slice none 0 0] 26 (0, 0)) (tag fun b L => K (.pointer (some ⟨b, 0, none⟩)) L) := allocX_eq (z := .agg #[.slice none 0 0, .slice none 0 0]) (by kernel_rfl) wb L K
@[push_cast] theorem al_27 (wb : World) (L : Own) (K : Value → Own → Prop) : AllocX Tryd.prog 27 wb L (tag K) = NewX wb L (.cells #[.int .i64 0] 27 (0, 0)) (tag fun b L => K (.pointer (some ⟨b, 0, none⟩)) L) := allocX_eq (z := .int .i64 0) (by kernel_rfl) wb L K
@[push_cast] theorem al_32 (wb : World) (L : Own) (K : Value → Own → Prop) : AllocX Tryd.prog 32 wb L (tag K) = NewX wb L (.cells #[.int .i64 0, .slice none 0 0, .int .i64 0] 32 (0, 0)) (tag fun b L => K (.pointer (some ⟨b, 0, none⟩)) L) := allocX_eq (z := .agg #[.int .i64 0, .slice none 0 0, .int .i64 0]) (by kernel_rfl) wb L K
@[push_cast] theorem al_39 (wb : World) (L : Own) (K : Value → Own → Prop) : AllocX Tryd.prog 39 wb L (tag K) = NewX wb L (.cells #[.int .i64 0, .int .i64 0, .int .i64 0, .int .i64 0, .slice none 0 0] 39 (0, 0)) (tag fun b L => K (.pointer (some ⟨b, 0, none⟩)) L) := allocX_eq (z := .agg #[.int .i64 0, .int .i64 0, .int .i64 0, .int .i64 0, .slice none 0 0]) (by kernel_rfl) wb L K
@[push_cast] theorem al_41 (wb : World) (L : Own) (K : Value → Own → Prop) : AllocX Tryd.prog 41 wb L (tag K) = NewX wb L (.cells #[.string ⟨#[]⟩, .bool false, .int .i64 0, .int .i64 0, .int .i64 0, .int .i64 0, .slice none 0 0] 41 (0, 0)) (tag fun b L => K (.pointer (some ⟨b, 0, none⟩)) L) := allocX_eq (z := .agg #[.string ⟨#[]⟩, .bool false, .int .i64 0, .int .i64 0, .int .i64 0, .int .i64 0, .slice none 0 0]) (by kernel_rfl) wb L K
@[push_cast] theorem al_52 (wb : World) (L : Own) (K : Value → Own → Prop) : AllocX Tryd.prog 52 wb L (tag K) = NewX wb L (.cells #[.int .i64 0] 52 (0, 0)) (tag fun b L => K (.pointer (some ⟨b, 0, none⟩)) L) := allocX_eq (z := .agg #[.int .i64 0]) (by kernel_rfl) wb L K
@[push_cast] theorem al_64 (wb : World) (L : Own) (K : Value → Own → Prop) : AllocX Tryd.prog 64 wb L (tag K) = NewX wb L (.cells #[.string ⟨#[]⟩, .string ⟨#[]⟩] 64 (0, 0)) (tag fun b L => K (.pointer (some ⟨b, 0, none⟩)) L) := allocX_eq (z := .agg #[.string ⟨#[]⟩, .string ⟨#[]⟩]) (by kernel_rfl) wb L K
@[push_cast] theorem al_65 (wb : World) (L : Own) (K : Value → Own → Prop) : AllocX Tryd.prog 65 wb L (tag K) = NewX wb L (.cells #[.map none] 65 (0, 0)) (tag fun b L => K (.pointer (some ⟨b, 0, none⟩)) L) := allocX_eq (z := .map none) (by kernel_rfl) wb L K
@[push_cast] theorem al_70 (wb : World) (L : Own) (K : Value → Own → Prop) : AllocX Tryd.prog 70 wb L (tag K) = NewX wb L (.cells #[.slice none 0 0, .slice none 0 0, .string ⟨#[]⟩, .bool false, .int .i64 0, .int .i64 0, .int .i64 0, .int .i64 0, .slice none 0 0, .bool false] 70 (0, 0)) (tag fun b L => K (.pointer (some ⟨b, 0, none⟩)) L) := allocX_eq (z := .agg #[.slice none 0 0, .slice none 0 0, .string ⟨#[]⟩, .bool false, .int .i64 0, .int .i64 0, .int .i64 0, .int .i64 0, .slice none 0 0, .bool false]) (by kernel_rfl) wb L K
@[push_cast] theorem al_78 (wb : World) (L : Own) (K : Value → Own → Prop) : AllocX Tryd.prog 78 wb L (tag K) = NewX wb L (.cells #[.int .i64 0, .slice none 0 0] 78 (0, 0)) (tag fun b L => K (.pointer (some ⟨b, 0, none⟩)) L) := allocX_eq (z := .agg #[.int .i64 0, .slice none 0 0]) (by kernel_rfl) wb L K
@[push_cast] theorem al_87 (wb : World) (L : Own) (K : Value → Own → Prop) : AllocX Tryd.prog 87 wb L (tag K) = NewX wb L (.cells #[.nilFunc] 87 (0, 0)) (tag fun b L => K (.pointer (some ⟨b, 0, none⟩)) L) := allocX_eq (z := .nilFunc) (by kernel_rfl) wb L K
@[push_cast] theorem al_117 (wb : World) (L : Own) (K : Value → Own → Prop) : AllocX Tryd.prog 117 wb L (tag K) = NewX wb L (.cells #[.int .u8 0, .int .u8 0, .int .u8 0, .int .u8 0, .int .u8 0, .int .u8 0, .int .u8 0, .int .u8 0, .int .u8 0, .int .u8 0, .int .u8 0, .int .u8 0, .int .u8 0, .int .u8 0, .int .u8 0, .int .u8 0, .int .u8 0, .int .u8 0, .int .u8 0, .int .u8 0, .int .u8 0, .int .u8 0, .int .u8 0, .int .u8 0] 117 (0, 0)) (tag fun b L => K (.pointer (some ⟨b, 0, none⟩)) L) := allocX_eq (z := .agg #[.int .u8 0, .int .u8 0, .int .u8 0, .int .u8 0, .int .u8 0, .int .u8 0, .int .u8 0, .int .u8 0, .int .u8 0, .int .u8 0, .int .u8 0, .int .u8 0, .int .u8 0, .int .u8 0, .int .u8 0, .int .u8 0, .int .u8 0, .int .u8 0, .int .u8 0, .int .u8 0, .int .u8 0, .int .u8 0, .int .u8 0, .int .u8 0]) (by kernel_rfl) wb L K
theorem un_23 : Tryd.prog.underlying 23 = some (.slice 41) := by kernel_rfl
theorem ez_23 : (Tryd.prog.info? 41).map (·.size) = some 7 := by kernel_rfl
@[push_cast] theorem ix_23 (b off n c : Nat) (k : IntKind) (i : Int) (h0 : 0 ≤ i) (h1 : i < n) : PureX Tryd.prog (Instr.indexAt 23 (.slice (some ⟨b, off, none⟩) n c) (.int k i)) (tag K) = K (.pointer (some ⟨b, off + i.toNat * 7, none⟩)) := idxS b off n c k un_23 ez_23 i h0 h1
@[push_cast] theorem sHi_23 (b off n c : Nat) (k : IntKind) (i : Int) (h0 : 0 ≤ i) (h1 : i ≤ c) : PureX Tryd.prog (Instr.sliceAt 23 (.slice (some ⟨b, off, none⟩) n c) none (some (.int k i)) none) (tag K) = K (.slice (some ⟨b, off, none⟩) i.toNat c) := slHi n c k un_23 ez_23 i _ (fun x h => by cases h; rfl) h0 h1
@[push_cast] theorem sLo_23 (b off n c : Nat) (k : IntKind) (i : Int) (h0 : 0 ≤ i) (h1 : i ≤ n) : PureX Tryd.prog (Instr.sliceAt 23 (.slice (some ⟨b, off, none⟩) n c) (some (.int k i)) none none) (tag K) = K (.slice (some ⟨b, if c = i.toNat then off else off + i.toNat * 7, none⟩) (n - i.toNat) (c - i.toNat)) := slLo b off n c k un_23 ez_23 i h0 h1
@[push_cast] theorem sLoHi_23 (b off n c : Nat) (k : IntKind) (i j : Int) (h0 : 0 ≤ i) (h1 : i ≤ j) (h2 : j ≤ c) : PureX Tryd.prog (Instr.sliceAt 23 (.slice (some ⟨b, off, none⟩) n c) (some (.int k i)) (some (.int k j)) none) (tag K) = K (.slice (some ⟨b, if c = i.toNat then off else off + i.toNat * 7, none⟩) (j.toNat - i.toNat) (c - i.toNat)) := slLoHi b off n c k un_23 ez_23 i j h0 h1 h2
@[push_cast] theorem sHiMax_23 (n c : Nat) (a : Option Addr) (k : IntKind) (i j : Int) (h0 : 0 ≤ i) (h1 : i ≤ j) (h2 : j ≤ c) : PureX Tryd.prog (Instr.sliceAt 23 (.slice a n c) none (some (.int k i)) (some (.int k j))) (tag K) = K (.slice a i.toNat j.toNat) := slHiMax n c k un_23 ez_23 i j a h0 h1 h2
theorem un_24 : Tryd.prog.underlying 24 = some (.slice 64) := by kernel_rfl
theorem ez_24 : (Tryd.prog.info? 64).map (·.size) = some 2 := by kernel_rfl
@[push_cast] theorem ix_24 (b off n c : Nat) (k : IntKind) (i : Int) (h0 : 0 ≤ i) (h1 : i < n) : PureX Tryd.prog (Instr.indexAt 24 (.slice (some ⟨b, off, none⟩) n c) (.int k i)) (tag K) = K (.pointer (some ⟨b, off + i.toNat * 2, none⟩)) := idxS b off n c k un_24 ez_24 i h0 h1
theorem un_30 : Tryd.prog.underlying 30 = some (.slice 3) := by kernel_rfl
theorem ez_30 : (Tryd.prog.info? 3).map (·.size) = some 1 := by kernel_rfl
@[push_cast] theorem ix_30 (b off n c : Nat) (k : IntKind) (i : Int) (h0 : 0 ≤ i) (h1 : i < n) : PureX Tryd.prog (Instr.indexAt 30 (.slice (some ⟨b, off, none⟩) n c) (.int k i)) (tag K) = K (.pointer (some ⟨b, off + i.toNat * 1, none⟩)) := idxS b off n c k un_30 ez_30 i h0 h1
@[push_cast] theorem sHi_30 (b off n c : Nat) (k : IntKind) (i : Int) (h0 : 0 ≤ i) (h1 : i ≤ c) : PureX Tryd.prog (Instr.sliceAt 30 (.slice (some ⟨b, off, none⟩) n c) none (some (.int k i)) none) (tag K) = K (.slice (some ⟨b, off, none⟩) i.toNat c) := slHi n c k un_30 ez_30 i _ (fun x h => by cases h; rfl) h0 h1
@[push_cast] theorem sLo_30 (b off n c : Nat) (k : IntKind) (i : Int) (h0 : 0 ≤ i) (h1 : i ≤ n) : PureX Tryd.prog (Instr.sliceAt 30 (.slice (some ⟨b, off, none⟩) n c) (some (.int k i)) none none) (tag K) = K (.slice (some ⟨b, if c = i.toNat then off else off + i.toNat * 1, none⟩) (n - i.toNat) (c - i.toNat)) := slLo b off n c k un_30 ez_30 i h0 h1
@[push_cast] theorem sLoHi_30 (b off n c : Nat) (k : IntKind) (i j : Int) (h0 : 0 ≤ i) (h1 : i ≤ j) (h2 : j ≤ c) : PureX Tryd.prog (Instr.sliceAt 30 (.slice (some ⟨b, off, none⟩) n c) (some (.int k i)) (some (.int k j)) none) (tag K) = K (.slice (some ⟨b, if c = i.toNat then off else off + i.toNat * 1, none⟩) (j.toNat - i.toNat) (c - i.toNat)) := slLoHi b off n c k un_30 ez_30 i j h0 h1 h2
@[push_cast] theorem sHiMax_30 (n c : Nat) (a : Option Addr) (k : IntKind) (i j : Int) (h0 : 0 ≤ i) (h1 : i ≤ j) (h2 : j ≤ c) : PureX Tryd.prog (Instr.sliceAt 30 (.slice a n c) none (some (.int k i)) (some (.int k j))) (tag K) = K (.slice a i.toNat j.toNat) := slHiMax n c k un_30 ez_30 i j a h0 h1 h2
theorem un_57 : Tryd.prog.underlying 57 = some (.slice 78) := by kernel_rfl
theorem ez_57 : (Tryd.prog.info? 78).map (·.size) = some 2 := by kernel_rfl
@[push_cast] theorem ix_57 (b off n c : Nat) (k : IntKind) (i : Int) (h0 : 0 ≤ i) (h1 : i < n) : PureX Tryd.prog (Instr.indexAt 57 (.slice (some ⟨b, off, none⟩) n c) (.int k i)) (tag K) = K (.pointer (some ⟨b, off + i.toNat * 2, none⟩)) := idxS b off n c k un_57 ez_57 i h0 h1
theorem un_72 : Tryd.prog.underlying 72 = some (.slice 5) := by kernel_rfl
theorem ez_72 : (Tryd.prog.info? 5).map (·.size) = some 1 := by kernel_rfl
@[push_cast] theorem ix_72 (b off n c : Nat) (k : IntKind) (i : Int) (h0 : 0 ≤ i) (h1 : i < n) : PureX Tryd.prog (Instr.indexAt 72 (.slice (some ⟨b, off, none⟩) n c) (.int k i)) (tag K) = K (.pointer (some ⟨b, off + i.toNat * 1, none⟩)) := idxS b off n c k un_72 ez_72 i h0 h1
theorem ua_105 : Tryd.prog.underlying 105 = some (.array 21 104) := by kernel_rfl
theorem ez_105 : (Tryd.prog.info? 104).map (·.size) = some 4 := by kernel_rfl
@[push_cast] theorem ix_105 (b off : Nat) (k : IntKind) (i : Int) (h0 : 0 ≤ i) (h1 : i < (21 : Nat)) : PureX Tryd.prog (Instr.indexAt 105 (.pointer (some ⟨b, off, none⟩)) (.int k i)) (tag K) = K (.pointer (some ⟨b, off + i.toNat * 4, none⟩)) := idxA b off k ua_105 ez_105 i h0 h1
theorem ua_117 : Tryd.prog.underlying 117 = some (.array 24 5) := by kernel_rfl
theorem ez_117 : (Tryd.prog.info? 5).map (·.size) = some 1 := by kernel_rfl
@[push_cast] theorem ix_117 (b off : Nat) (k : IntKind) (i : Int) (h0 : 0 ≤ i) (h1 : i < (24 : Nat)) : PureX Tryd.prog (Instr.indexAt 117 (.pointer (some ⟨b, off, none⟩)) (.int k i)) (tag K) = K (.pointer (some ⟨b, off + i.toNat * 1, none⟩)) := idxA b off k ua_117 ez_117 i h0 h1
theorem ua_131 : Tryd.prog.underlying 131 = some (.array 20 114) := by kernel_rfl
theorem ez_131 : (Tryd.prog.info? 114).map (·.size) = some 1 := by kernel_rfl
@[push_cast] theorem ix_131 (b off : Nat) (k : IntKind) (i : Int) (h0 : 0 ≤ i) (h1 : i < (20 : Nat)) : PureX Tryd.prog (Instr.indexAt 131 (.pointer (some ⟨b, off, none⟩)) (.int k i)) (tag K) = K (.pointer (some ⟨b, off + i.toNat * 1, none⟩)) := idxA b off k ua_131 ez_131 i h0 h1
theorem ua_133 : Tryd.prog.underlying 133 = some (.array 65 5) := by kernel_rfl
theorem ez_133 : (Tryd.prog.info? 5).map (·.size) = some 1 := by kernel_rfl
@[push_cast] theorem ix_133 (b off : Nat) (k : IntKind) (i : Int) (h0 : 0 ≤ i) (h1 : i < (65 : Nat)) : PureX Tryd.prog (Instr.indexAt 133 (.pointer (some ⟨b, off, none⟩)) (.int k i)) (tag K) = K (.pointer (some ⟨b, off + i.toNat * 1, none⟩)) := idxA b off k ua_133 ez_133 i h0 h1
theorem ua_147 : Tryd.prog.underlying 147 = some (.array 32 5) := by kernel_rfl
theorem ez_147 : (Tryd.prog.info? 5).map (·.size) = some 1 := by kernel_rfl
@[push_cast] theorem ix_147 (b off : Nat) (k : IntKind) (i : Int) (h0 : 0 ≤ i) (h1 : i < (32 : Nat)) : PureX Tryd.prog (Instr.indexAt 147 (.pointer (some ⟨b, off, none⟩)) (.int k i)) (tag K) = K (.pointer (some ⟨b, off + i.toNat * 1, none⟩)) := idxA b off k ua_147 ez_147 i h0 h1
theorem ua_148 : Tryd.prog.underlying 148 = some (.array 64 5) := by kernel_rfl
theorem ez_148 : (Tryd.prog.info? 5).map (·.size) = some 1 := by kernel_rfl
@[push_cast] theorem ix_148 (b off : Nat) (k : IntKind) (i : Int) (h0 : 0 ≤ i) (h1 : i < (64 : Nat)) : PureX Tryd.prog (Instr.indexAt 148 (.pointer (some ⟨b, off, none⟩)) (.int k i)) (tag K) = K (.pointer (some ⟨b, off + i.toNat * 1, none⟩)) := idxA b off k ua_148 ez_148 i h0 h1
@[push_cast] theorem ln_9 (ty : TypeId) (l : List UInt8) : PureX Tryd.prog (Builtin.len_ #[9] ty #[.string ⟨l.toArray⟩]) (tag K) = K (.int .i64 l.length) := px (fun w => by kernel_rfl) K
@[push_cast] theorem ln_10 (ty : TypeId) (l : List UInt8) : PureX Tryd.prog (Builtin.len_ #[10] ty #[.string ⟨l.toArray⟩]) (tag K) = K (.int .i64 l.length) := px (fun w => by kernel_rfl) K
@[push_cast] theorem ln_11 (ty : TypeId) (l : List UInt8) : PureX Tryd.prog (Builtin.len_ #[11] ty #[.string ⟨l.toArray⟩]) (tag K) = K (.int .i64 l.length) := px (fun w => by kernel_rfl) K
@[push_cast] theorem ln_23 (ty : TypeId) (a : Option Addr) (n c : Nat) : PureX Tryd.prog (Builtin.len_ #[23] ty #[.slice a n c]) (tag K) = K (.int .i64 n) := px (fun w => by kernel_rfl) K
@[push_cast] theorem ln_24 (ty : TypeId) (a : Option Addr) (n c : Nat) : PureX Tryd.prog (Builtin.len_ #[24] ty #[.slice a n c]) (tag K) = K (.int .i64 n) := px (fun w => by kernel_rfl) K
@[push_cast] theorem ln_30 (ty : TypeId) (a : Option Addr) (n c : Nat) : PureX Tryd.prog (Builtin.len_ #[30] ty #[.slice a n c]) (tag K) = K (.int .i64 n) := px (fun w => by kernel_rfl) K
@[push_cast] theorem ln_57 (ty : TypeId) (a : Option Addr) (n c : Nat) : PureX Tryd.prog (Builtin.len_ #[57] ty #[.slice a n c]) (tag K) = K (.int .i64 n) := px (fun w => by kernel_rfl) K
@[push_cast] theorem ln_72 (ty : TypeId) (a : Option Addr) (n c : Nat) : PureX Tryd.prog (Builtin.len_ #[72] ty #[.slice a n c]) (tag K) = K (.int .i64 n) := px (fun w => by kernel_rfl) K
theorem us_9 : Tryd.prog.underlying 9 = some .string := by kernel_rfl
@[push_cast] theorem is_9 (l : List UInt8) (k : IntKind) (i : Int) (h0 : 0 ≤ i) (h1 : i < l.length) : PureX Tryd.prog (Instr.index 9 (.string ⟨l.toArray⟩) (.int k i)) (tag K) = K (.int .u8 (l.getD i.toNat 0).toNat) := idxStr l k us_9 i h0 h1
@[push_cast] theorem ssLoHi_9 (l : List UInt8) (k : IntKind) (i j : Int) (h0 : 0 ≤ i) (h1 : i ≤ j) (h2 : j ≤ l.length) : PureX Tryd.prog (Instr.sliceAt 9 (.string ⟨l.toArray⟩) (some (.int k i)) (some (.int k j)) none) (tag K) = K (str ((l.take j.toNat).drop i.toNat)) := slStr l k us_9 i j h0 h1 h2
@[push_cast] theorem ssLo_9 (l : List UInt8) (k : IntKind) (i : Int) (h0 : 0 ≤ i) (h1 : i ≤ l.length) : PureX Tryd.prog (Instr.sliceAt 9 (.string ⟨l.toArray⟩) (some (.int k i)) none none) (tag K) = K (str (l.drop i.toNat)) := slStrLo l k us_9 i h0 h1
@[push_cast] theorem ssHi_9 (l : List UInt8) (k : IntKind) (i : Int) (h0 : 0 ≤ i) (h1 : i ≤ l.length) : PureX Tryd.prog (Instr.sliceAt 9 (.string ⟨l.toArray⟩) none (some (.int k i)) none) (tag K) = K (str (l.take i.toNat)) := slStrHi l k us_9 i h0 h1
theorem ub_4 : Tryd.prog.underlying 4 = some .bool := by kernel_rfl
@[push_cast] theorem be_4 (x y : Operand) (a b : Bool) : PureX Tryd.prog (binV .eql 4 x y (.bool a) (.bool b)) (tag K) = K (.bool (a == b)) := bin_bool_eql x y ub_4 a b
@[push_cast] theorem bn_4 (x y : Operand) (a b : Bool) : PureX Tryd.prog (binV .neq 4 x y (.bool a) (.bool b)) (tag K) = K (.bool (a != b)) := bin_bool_neq x y ub_4 a b
@[push_cast] theorem bu_26_  : PureX Tryd.prog (Instr.build 26 #[]) (tag K) = K (.agg #[.slice none 0 0, .slice none 0 0]) := px (fun w => by kernel_rfl) K
@[push_cast] theorem bu_26_0 (x1a : Option Addr) (x1n x1c : Nat) : PureX Tryd.prog (Instr.build 26 #[(0, .slice x1a x1n x1c)]) (tag K) = K (.agg #[.slice x1a x1n x1c, .slice none 0 0]) := px (fun w => by kernel_rfl) K
@[push_cast] theorem bu_32_  : PureX Tryd.prog (Instr.build 32 #[]) (tag K) = K (.agg #[.int .i64 0, .slice none 0 0, .int .i64 0]) := px (fun w => by kernel_rfl) K
@[push_cast] theorem bu_32_0_1 (x2 : Int) (x3a : Option Addr) (x3n x3c : Nat) : PureX Tryd.prog (Instr.build 32 #[(0, .int .i64 x2), (1, .slice x3a x3n x3c)]) (tag K) = K (.agg #[.int .i64 x2, .slice x3a x3n x3c, .int .i64 0]) := px (fun w => by kernel_rfl) K
@[push_cast] theorem bu_32_0_2 (x4 x5 : Int) : PureX Tryd.prog (Instr.build 32 #[(0, .int .i64 x4), (2, .int .i64 x5)]) (tag K) = K (.agg #[.int .i64 x4, .slice none 0 0, .int .i64 x5]) := px (fun w => by kernel_rfl) K
@[push_cast] theorem bu_39_0 (x6 : Int) : PureX Tryd.prog (Instr.build 39 #[(0, .int .i64 x6)]) (tag K) = K (.agg #[.int .i64 x6, .int .i64 0, .int .i64 0, .int .i64 0, .slice none 0 0]) := px (fun w => by kernel_rfl) K
@[push_cast] theorem bu_39_0_4 (x7 : Int) (x8a : Option Addr) (x8n x8c : Nat) : PureX Tryd.prog (Instr.build 39 #[(0, .int .i64 x7), (4, .slice x8a x8n x8c)]) (tag K) = K (.agg #[.int .i64 x7, .int .i64 0, .int .i64 0, .int .i64 0, .slice x8a x8n x8c]) := px (fun w => by kernel_rfl) K
@[push_cast] theorem bu_39_4 (x9a : Option Addr) (x9n x9c : Nat) : PureX Tryd.prog (Instr.build 39 #[(4, .slice x9a x9n x9c)]) (tag K) = K (.agg #[.int .i64 0, .int .i64 0, .int .i64 0, .int .i64 0, .slice x9a x9n x9c]) := px (fun w => by kernel_rfl) K
@[push_cast] theorem bu_41_  : PureX Tryd.prog (Instr.build 41 #[]) (tag K) = K (.agg #[.string ⟨#[]⟩, .bool false, .int .i64 0, .int .i64 0, .int .i64 0, .int .i64 0, .slice none 0 0]) := px (fun w => by kernel_rfl) K
@[push_cast] theorem bu_41_0_1_2 (x10 : ByteArray) (x11 : Bool) (x12 x13 x14 x15 : Int) (x16a : Option Addr) (x16n x16c : Nat) : PureX Tryd.prog (Instr.build 41 #[(0, .string x10), (1, .bool x11), (2, .agg #[.int .i64 x12, .int .i64 x13, .int .i64 x14, .int .i64 x15, .slice x16a x16n x16c])]) (tag K) = K (.agg #[.string x10, .bool x11, .int .i64 x12, .int .i64 x13, .int .i64 x14, .int .i64 x15, .slice x16a x16n x16c]) := px (fun w => by kernel_rfl) K
@[push_cast] theorem bu_41_0_2 (x17 : ByteArray) (x18 x19 x20 x21 : Int) (x22a : Option Addr) (x22n x22c : Nat) : PureX Tryd.prog (Instr.build 41 #[(0, .string x17), (2, .agg #[.int .i64 x18, .int .i64 x19, .int .i64 x20, .int .i64 x21, .slice x22a x22n x22c])]) (tag K) = K (.agg #[.string x17, .bool false, .int .i64 x18, .int .i64 x19, .int .i64 x20, .int .i64 x21, .slice x22a x22n x22c]) := px (fun w => by kernel_rfl) K
@[push_cast] theorem bu_41_0_2_1 (x23 : ByteArray) (x24 x25 x26 x27 : Int) (x28a : Option Addr) (x28n x28c : Nat) (x29 : Bool) : PureX Tryd.prog (Instr.build 41 #[(0, .string x23), (2, .agg #[.int .i64 x24, .int .i64 x25, .int .i64 x26, .int .i64 x27, .slice x28a x28n x28c]), (1, .bool x29)]) (tag K) = K (.agg #[.string x23, .bool x29, .int .i64 x24, .int .i64 x25, .int .i64 x26, .int .i64 x27, .slice x28a x28n x28c]) := px (fun w => by kernel_rfl) K
@[push_cast] theorem bu_52_0 (x30 : Int) : PureX Tryd.prog (Instr.build 52 #[(0, .int .i64 x30)]) (tag K) = K (.agg #[.int .i64 x30]) := px (fun w => by kernel_rfl) K
@[push_cast] theorem bu_56_0 (x31 : ByteArray) : PureX Tryd.prog (Instr.build 56 #[(0, .string x31)]) (tag K) = K (.agg #[.string x31, .int .i64 0]) := px (fun w => by kernel_rfl) K
@[push_cast] theorem bu_64_0_1 (x32 x33 : ByteArray) : PureX Tryd.prog (Instr.build 64 #[(0, .string x32), (1, .string x33)]) (tag K) = K (.agg #[.string x32, .string x33]) := px (fun w => by kernel_rfl) K
@[push_cast] theorem bu_70_0_1_2_3 (x34a x35a x42a : Option Addr) (x34n x34c x35n x35c x42n x42c : Nat) (x36 : ByteArray) (x37 x43 : Bool) (x38 x39 x40 x41 : Int) : PureX Tryd.prog (Instr.build 70 #[(0, .slice x34a x34n x34c), (1, .slice x35a x35n x35c), (2, .agg #[.string x36, .bool x37, .int .i64 x38, .int .i64 x39, .int .i64 x40, .int .i64 x41, .slice x42a x42n x42c]), (3, .bool x43)]) (tag K) = K (.agg #[.slice x34a x34n x34c, .slice x35a x35n x35c, .string x36, .bool x37, .int .i64 x38, .int .i64 x39, .int .i64 x40, .int .i64 x41, .slice x42a x42n x42c, .bool x43]) := px (fun w => by kernel_rfl) K
@[push_cast] theorem bu_78_0_1 (x44 : Int) (x45a : Option Addr) (x45n x45c : Nat) : PureX Tryd.prog (Instr.build 78 #[(0, .int .i64 x44), (1, .slice x45a x45n x45c)]) (tag K) = K (.agg #[.int .i64 x44, .slice x45a x45n x45c]) := px (fun w => by kernel_rfl) K
@[push_cast] theorem bu_104_0_1_2_3 (x46 : ByteArray) (x47 x48 : Int) (x49 : Bool) : PureX Tryd.prog (Instr.build 104 #[(0, .string x46), (1, .int .i64 x47), (2, .int .i64 x48), (3, .bool x49)]) (tag K) = K (.agg #[.string x46, .int .i64 x47, .int .i64 x48, .bool x49]) := px (fun w => by kernel_rfl) K
@[push_cast] theorem bu_146_0 (x53 : ByteArray) : PureX Tryd.prog (Instr.build 146 #[(0, .string x53)]) (tag K) = K (.agg #[.string x53]) := px (fun w => by kernel_rfl) K
@[push_cast] theorem fi_32_0 (x54 x56 : Int) (x55a : Option Addr) (x55n x55c : Nat) : PureX Tryd.prog (Instr.field 32 (.agg #[.int .i64 x54, .slice x55a x55n x55c, .int .i64 x56]) 0) (tag K) = K (.int .i64 x54) := px (fun w => by kernel_rfl) K
@[push_cast] theorem mi_9 (x : Value) : PureX Tryd.prog (Instr.makeInterface 9 x) (tag K) = K (.iface 9 x) := px (fun w => by kernel_rfl) K
@[push_cast] theorem mi_52 (x : Value) : PureX Tryd.prog (Instr.makeInterface 52 x) (tag K) = K (.iface 52 x) := px (fun w => by kernel_rfl) K
@[push_cast] theorem mi_122 (x : Value) : PureX Tryd.prog (Instr.makeInterface 122 x) (tag K) = K (.iface 122 x) := px (fun w => by kernel_rfl) K
@[push_cast] theorem mi_125 (x : Value) : PureX Tryd.prog (Instr.makeInterface 125 x) (tag K) = K (.iface 125 x) := px (fun w => by kernel_rfl) K
@[push_cast] theorem mi_144 (x : Value) : PureX Tryd.prog (Instr.makeInterface 144 x) (tag K) = K (.iface 144 x) := px (fun w => by kernel_rfl) K
@[push_cast] theorem cv_2_114 (n : Int) : PureX Tryd.prog (convert 2 114 (.int .i64 n)) (tag K) = K (.int .u64 (IntKind.u64.wrap n)) := px (fun w => by kernel_rfl) K
@[push_cast] theorem cv_3_5 (n : Int) : PureX Tryd.prog (convert 3 5 (.int .i64 n)) (tag K) = K (.int .u8 (IntKind.u8.wrap n)) := px (fun w => by kernel_rfl) K
@[push_cast] theorem cv_3_93 (n : Int) : PureX Tryd.prog (convert 3 93 (.int .i64 n)) (tag K) = K (.int .u64 (IntKind.u64.wrap n)) := px (fun w => by kernel_rfl) K
@[push_cast] theorem cv_3_114 (n : Int) : PureX Tryd.prog (convert 3 114 (.int .i64 n)) (tag K) = K (.int .u64 (IntKind.u64.wrap n)) := px (fun w => by kernel_rfl) K
@[push_cast] theorem cv_5_3 (n : Int) : PureX Tryd.prog (convert 5 3 (.int .u8 n)) (tag K) = K (.int .i64 (IntKind.i64.wrap n)) := px (fun w => by kernel_rfl) K
@[push_cast] theorem cv_5_114 (n : Int) : PureX Tryd.prog (convert 5 114 (.int .u8 n)) (tag K) = K (.int .u64 (IntKind.u64.wrap n)) := px (fun w => by kernel_rfl) K
@[push_cast] theorem cv_93_132 (n : Int) : PureX Tryd.prog (convert 93 132 (.int .u64 n)) (tag K) = K (.int .u32 (IntKind.u32.wrap n)) := px (fun w => by kernel_rfl) K
@[push_cast] theorem cv_114_2 (n : Int) : PureX Tryd.prog (convert 114 2 (.int .u64 n)) (tag K) = K (.int .i64 (IntKind.i64.wrap n)) := px (fun w => by kernel_rfl) K
@[push_cast] theorem cv_114_3 (n : Int) : PureX Tryd.prog (convert 114 3 (.int .u64 n)) (tag K) = K (.int .i64 (IntKind.i64.wrap n)) := px (fun w => by kernel_rfl) K
@[push_cast] theorem cv_114_5 (n : Int) : PureX Tryd.prog (convert 114 5 (.int .u64 n)) (tag K) = K (.int .u8 (IntKind.u8.wrap n)) := px (fun w => by kernel_rfl) K
@[push_cast] theorem cv_114_132 (n : Int) : PureX Tryd.prog (convert 114 132 (.int .u64 n)) (tag K) = K (.int .u32 (IntKind.u32.wrap n)) := px (fun w => by kernel_rfl) K
@[push_cast] theorem cv_132_5 (n : Int) : PureX Tryd.prog (convert 132 5 (.int .u32 n)) (tag K) = K (.int .u8 (IntKind.u8.wrap n)) := px (fun w => by kernel_rfl) K
theorem bs_23_1 {y57 : ByteArray} {y58 : Bool} {y59 y60 y61 y62 : Int} {y63a : Option Addr} {y63n y63c : Nat} {wb : World} {L : Own} {K : Value → World → Own → Prop} (h : NewX wb L (.cells #[.string y57, .bool y58, .int .i64 y59, .int .i64 y60, .int .i64 y61, .int .i64 y62, .slice y63a y63n y63c] 41 (0, 0)) (tag fun b L => K (.slice (some ⟨b, 0, none⟩) 1 1) wb L)) : ValX Tryd.prog (Instr.buildSlice 23 1 #[(0, .agg #[.string y57, .bool y58, .int .i64 y59, .int .i64 y60, .int .i64 y61, .int .i64 y62, .slice y63a y63n y63c])]) wb L (tag K) := valX_new (fun w => by kernel_rfl) h
theorem bs_23_2 {y64 y71 : ByteArray} {y65 y72 : Bool} {y66 y67 y68 y69 y73 y74 y75 y76 : Int} {y70a y77a : Option Addr} {y70n y70c y77n y77c : Nat} {wb : World} {L : Own} {K : Value → World → Own → Prop} (h : NewX wb L (.cells #[.string y64, .bool y65, .int .i64 y66, .int .i64 y67, .int .i64 y68, .int .i64 y69, .slice y70a y70n y70c, .string y71, .bool y72, .int .i64 y73, .int .i64 y74, .int .i64 y75, .int .i64 y76, .slice y77a y77n y77c] 41 (0, 0)) (tag fun b L => K (.slice (some ⟨b, 0, none⟩) 2 2) wb L)) : ValX Tryd.prog (Instr.buildSlice 23 2 #[(0, .agg #[.string y64, .bool y65, .int .i64 y66, .int .i64 y67, .int .i64 y68, .int .i64 y69, .slice y70a y70n y70c]), (1, .agg #[.string y71, .bool y72, .int .i64 y73, .int .i64 y74, .int .i64 y75, .int .i64 y76, .slice y77a y77n y77c])]) wb L (tag K) := valX_new (fun w => by kernel_rfl) h
theorem bs_23_3 {y78 y85 y92 : ByteArray} {y79 y86 y93 : Bool} {y80 y81 y82 y83 y87 y88 y89 y90 y94 y95 y96 y97 : Int} {y84a y91a y98a : Option Addr} {y84n y84c y91n y91c y98n y98c : Nat} {wb : World} {L : Own} {K : Value → World → Own → Prop} (h : NewX wb L (.cells #[.string y78, .bool y79, .int .i64 y80, .int .i64 y81, .int .i64 y82, .int .i64 y83, .slice y84a y84n y84c, .string y85, .bool y86, .int .i64 y87, .int .i64 y88, .int .i64 y89, .int .i64 y90, .slice y91a y91n y91c, .string y92, .bool y93, .int .i64 y94, .int .i64 y95, .int .i64 y96, .int .i64 y97, .slice y98a y98n y98c] 41 (0, 0)) (tag fun b L => K (.slice (some ⟨b, 0, none⟩) 3 3) wb L)) : ValX Tryd.prog (Instr.buildSlice 23 3 #[(0, .agg #[.string y78, .bool y79, .int .i64 y80, .int .i64 y81, .int .i64 y82, .int .i64 y83, .slice y84a y84n y84c]), (1, .agg #[.string y85, .bool y86, .int .i64 y87, .int .i64 y88, .int .i64 y89, .int .i64 y90, .slice y91a y91n y91c]), (2, .agg #[.string y92, .bool y93, .int .i64 y94, .int .i64 y95, .int .i64 y96, .int .i64 y97, .slice y98a y98n y98c])]) wb L (tag K) := valX_new (fun w => by kernel_rfl) h
theorem bs_24_1 {y99 y100 : ByteArray} {wb : World} {L : Own} {K : Value → World → Own → Prop} (h : NewX wb L (.cells #[.string y99, .string y100] 64 (0, 0)) (tag fun b L => K (.slice (some ⟨b, 0, none⟩) 1 1) wb L)) : ValX Tryd.prog (Instr.buildSlice 24 1 #[(0, .agg #[.string y99, .string y100])]) wb L (tag K) := valX_new (fun w => by kernel_rfl) h
theorem bs_24_2 {y101 y102 y103 y104 : ByteArray} {wb : World} {L : Own} {K : Value → World → Own → Prop} (h : NewX wb L (.cells #[.string y101, .string y102, .string y103, .string y104] 64 (0, 0)) (tag fun b L => K (.slice (some ⟨b, 0, none⟩) 2 2) wb L)) : ValX Tryd.prog (Instr.buildSlice 24 2 #[(0, .agg #[.string y101, .string y102]), (1, .agg #[.string y103, .string y104])]) wb L (tag K) := valX_new (fun w => by kernel_rfl) h
theorem bs_24_3 {y105 y106 y107 y108 y109 y110 : ByteArray} {wb : World} {L : Own} {K : Value → World → Own → Prop} (h : NewX wb L (.cells #[.string y105, .string y106, .string y107, .string y108, .string y109, .string y110] 64 (0, 0)) (tag fun b L => K (.slice (some ⟨b, 0, none⟩) 3 3) wb L)) : ValX Tryd.prog (Instr.buildSlice 24 3 #[(0, .agg #[.string y105, .string y106]), (1, .agg #[.string y107, .string y108]), (2, .agg #[.string y109, .string y110])]) wb L (tag K) := valX_new (fun w => by kernel_rfl) h
theorem bs_30_1 {y111 : Int} {wb : World} {L : Own} {K : Value → World → Own → Prop} (h : NewX wb L (.cells #[.int .i64 y111] 3 (0, 0)) (tag fun b L => K (.slice (some ⟨b, 0, none⟩) 1 1) wb L)) : ValX Tryd.prog (Instr.buildSlice 30 1 #[(0, .int .i64 y111)]) wb L (tag K) := valX_new (fun w => by kernel_rfl) h
theorem bs_30_2 {y112 y113 : Int} {wb : World} {L : Own} {K : Value → World → Own → Prop} (h : NewX wb L (.cells #[.int .i64 y112, .int .i64 y113] 3 (0, 0)) (tag fun b L => K (.slice (some ⟨b, 0, none⟩) 2 2) wb L)) : ValX Tryd.prog (Instr.buildSlice 30 2 #[(0, .int .i64 y112), (1, .int .i64 y113)]) wb L (tag K) := valX_new (fun w => by kernel_rfl) h
theorem bs_30_3 {y114 y115 y116 : Int} {wb : World} {L : Own} {K : Value → World → Own → Prop} (h : NewX wb L (.cells #[.int .i64 y114, .int .i64 y115, .int .i64 y116] 3 (0, 0)) (tag fun b L => K (.slice (some ⟨b, 0, none⟩) 3 3) wb L)) : ValX Tryd.prog (Instr.buildSlice 30 3 #[(0, .int .i64 y114), (1, .int .i64 y115), (2, .int .i64 y116)]) wb L (tag K) := valX_new (fun w => by kernel_rfl) h
theorem bs_57_1 {y117 : Int} {y118a : Option Addr} {y118n y118c : Nat} {wb : World} {L : Own} {K : Value → World → Own → Prop} (h : NewX wb L (.cells #[.int .i64 y117, .slice y118a y118n y118c] 78 (0, 0)) (tag fun b L => K (.slice (some ⟨b, 0, none⟩) 1 1) wb L)) : ValX Tryd.prog (Instr.buildSlice 57 1 #[(0, .agg #[.int .i64 y117, .slice y118a y118n y118c])]) wb L (tag K) := valX_new (fun w => by kernel_rfl) h
theorem bs_57_2 {y119 y121 : Int} {y120a y122a : Option Addr} {y120n y120c y122n y122c : Nat} {wb : World} {L : Own} {K : Value → World → Own → Prop} (h : NewX wb L (.cells #[.int .i64 y119, .slice y120a y120n y120c, .int .i64 y121, .slice y122a y122n y122c] 78 (0, 0)) (tag fun b L => K (.slice (some ⟨b, 0, none⟩) 2 2) wb L)) : ValX Tryd.prog (Instr.buildSlice 57 2 #[(0, .agg #[.int .i64 y119, .slice y120a y120n y120c]), (1, .agg #[.int .i64 y121, .slice y122a y122n y122c])]) wb L (tag K) := valX_new (fun w => by kernel_rfl) h
theorem bs_57_3 {y123 y125 y127 : Int} {y124a y126a y128a : Option Addr} {y124n y124c y126n y126c y128n y128c : Nat} {wb : World} {L : Own} {K : Value → World → Own → Prop} (h : NewX wb L (.cells #[.int .i64 y123, .slice y124a y124n y124c, .int .i64 y125, .slice y126a y126n y126c, .int .i64 y127, .slice y128a y128n y128c] 78 (0, 0)) (tag fun b L => K (.slice (some ⟨b, 0, none⟩) 3 3) wb L)) : ValX Tryd.prog (Instr.buildSlice 57 3 #[(0, .agg #[.int .i64 y123, .slice y124a y124n y124c]), (1, .agg #[.int .i64 y125, .slice y126a y126n y126c]), (2, .agg #[.int .i64 y127, .slice y128a y128n y128c])]) wb L (tag K) := valX_new (fun w => by kernel_rfl) h
theorem bs_72_1 {y129 : Int} {wb : World} {L : Own} {K : Value → World → Own → Prop} (h : NewX wb L (.cells #[.int .u8 y129] 5 (0, 0)) (tag fun b L => K (.slice (some ⟨b, 0, none⟩) 1 1) wb L)) : ValX Tryd.prog (Instr.buildSlice 72 1 #[(0, .int .u8 y129)]) wb L (tag K) := valX_new (fun w => by kernel_rfl) h
theorem bs_72_2 {y130 y131 : Int} {wb : World} {L : Own} {K : Value → World → Own → Prop} (h : NewX wb L (.cells #[.int .u8 y130, .int .u8 y131] 5 (0, 0)) (tag fun b L => K (.slice (some ⟨b, 0, none⟩) 2 2) wb L)) : ValX Tryd.prog (Instr.buildSlice 72 2 #[(0, .int .u8 y130), (1, .int .u8 y131)]) wb L (tag K) := valX_new (fun w => by kernel_rfl) h
theorem bs_72_3 {y132 y133 y134 : Int} {wb : World} {L : Own} {K : Value → World → Own → Prop} (h : NewX wb L (.cells #[.int .u8 y132, .int .u8 y133, .int .u8 y134] 5 (0, 0)) (tag fun b L => K (.slice (some ⟨b, 0, none⟩) 3 3) wb L)) : ValX Tryd.prog (Instr.buildSlice 72 3 #[(0, .int .u8 y132), (1, .int .u8 y133), (2, .int .u8 y134)]) wb L (tag K) := valX_new (fun w => by kernel_rfl) h
theorem en_5 : entersB Tryd.prog 5 = true := entersB_of Tryd.func5 (by kernel_rfl)
theorem en_6 : entersB Tryd.prog 6 = true := entersB_of Tryd.func6 (by kernel_rfl)
theorem en_7 : entersB Tryd.prog 7 = true := entersB_of Tryd.func7 (by kernel_rfl)
theorem en_8 : entersB Tryd.prog 8 = true := entersB_of Tryd.func8 (by kernel_rfl)
theorem en_9 : entersB Tryd.prog 9 = true := entersB_of Tryd.func9 (by kernel_rfl)
theorem en_10 : entersB Tryd.prog 10 = true := entersB_of Tryd.func10 (by kernel_rfl)
theorem en_11 : entersB Tryd.prog 11 = true := entersB_of Tryd.func11 (by kernel_rfl)
theorem en_12 : entersB Tryd.prog 12 = true := entersB_of Tryd.func12 (by kernel_rfl)
theorem en_13 : entersB Tryd.prog 13 = true := entersB_of Tryd.func13 (by kernel_rfl)
theorem en_14 : entersB Tryd.prog 14 = true := entersB_of Tryd.func14 (by kernel_rfl)
theorem en_15 : entersB Tryd.prog 15 = true := entersB_of Tryd.func15 (by kernel_rfl)
theorem en_16 : entersB Tryd.prog 16 = true := entersB_of Tryd.func16 (by kernel_rfl)
theorem en_17 : entersB Tryd.prog 17 = true := entersB_of Tryd.func17 (by kernel_rfl)
theorem en_18 : entersB Tryd.prog 18 = true := entersB_of Tryd.func18 (by kernel_rfl)
theorem en_19 : entersB Tryd.prog 19 = true := entersB_of Tryd.func19 (by kernel_rfl)
theorem en_20 : entersB Tryd.prog 20 = true := entersB_of Tryd.func20 (by kernel_rfl)
theorem en_21 : entersB Tryd.prog 21 = true := entersB_of Tryd.func21 (by kernel_rfl)
theorem en_22 : entersB Tryd.prog 22 = true := entersB_of Tryd.func22 (by kernel_rfl)
theorem en_23 : entersB Tryd.prog 23 = true := entersB_of Tryd.func23 (by kernel_rfl)
theorem en_24 : entersB Tryd.prog 24 = true := entersB_of Tryd.func24 (by kernel_rfl)
theorem en_25 : entersB Tryd.prog 25 = true := entersB_of Tryd.func25 (by kernel_rfl)
theorem en_26 : entersB Tryd.prog 26 = true := entersB_of Tryd.func26 (by kernel_rfl)
theorem en_27 : entersB Tryd.prog 27 = true := entersB_of Tryd.func27 (by kernel_rfl)
theorem en_28 : entersB Tryd.prog 28 = true := entersB_of Tryd.func28 (by kernel_rfl)
theorem en_29 : entersB Tryd.prog 29 = true := entersB_of Tryd.func29 (by kernel_rfl)
theorem en_30 : entersB Tryd.prog 30 = true := entersB_of Tryd.func30 (by kernel_rfl)
theorem en_31 : entersB Tryd.prog 31 = true := entersB_of Tryd.func31 (by kernel_rfl)
theorem en_32 : entersB Tryd.prog 32 = true := entersB_of Tryd.func32 (by kernel_rfl)
theorem en_33 : entersB Tryd.prog 33 = true := entersB_of Tryd.func33 (by kernel_rfl)
theorem en_34 : entersB Tryd.prog 34 = true := entersB_of Tryd.func34 (by kernel_rfl)
theorem en_35 : entersB Tryd.prog 35 = true := entersB_of Tryd.func35 (by kernel_rfl)
theorem en_36 : entersB Tryd.prog 36 = true := entersB_of Tryd.func36 (by kernel_rfl)
theorem en_37 : entersB Tryd.prog 37 = true := entersB_of Tryd.func37 (by kernel_rfl)
theorem en_38 : entersB Tryd.prog 38 = true := entersB_of Tryd.func38 (by kernel_rfl)
theorem en_39 : entersB Tryd.prog 39 = true := entersB_of Tryd.func39 (by kernel_rfl)
theorem en_40 : entersB Tryd.prog 40 = true := entersB_of Tryd.func40 (by kernel_rfl)
theorem en_41 : entersB Tryd.prog 41 = true := entersB_of Tryd.func41 (by kernel_rfl)
theorem en_42 : entersB Tryd.prog 42 = true := entersB_of Tryd.func42 (by kernel_rfl)
theorem en_43 : entersB Tryd.prog 43 = true := entersB_of Tryd.func43 (by kernel_rfl)
theorem en_44 : entersB Tryd.prog 44 = true := entersB_of Tryd.func44 (by kernel_rfl)
theorem en_45 : entersB Tryd.prog 45 = true := entersB_of Tryd.func45 (by kernel_rfl)
theorem en_46 : entersB Tryd.prog 46 = true := entersB_of Tryd.func46 (by kernel_rfl)
theorem en_47 : entersB Tryd.prog 47 = true := entersB_of Tryd.func47 (by kernel_rfl)
theorem en_48 : entersB Tryd.prog 48 = true := entersB_of Tryd.func48 (by kernel_rfl)
theorem en_49 : entersB Tryd.prog 49 = true := entersB_of Tryd.func49 (by kernel_rfl)
theorem en_50 : entersB Tryd.prog 50 = true := entersB_of Tryd.func50 (by kernel_rfl)
theorem en_52 : entersB Tryd.prog 52 = true := entersB_of Tryd.func52 (by kernel_rfl)
theorem en_53 : entersB Tryd.prog 53 = true := entersB_of Tryd.func53 (by kernel_rfl)
theorem en_54 : entersB Tryd.prog 54 = true := entersB_of Tryd.func54 (by kernel_rfl)
theorem en_55 : entersB Tryd.prog 55 = true := entersB_of Tryd.func55 (by kernel_rfl)
theorem en_56 : entersB Tryd.prog 56 = true := entersB_of Tryd.func56 (by kernel_rfl)
theorem en_57 : entersB Tryd.prog 57 = true := entersB_of Tryd.func57 (by kernel_rfl)
theorem en_58 : entersB Tryd.prog 58 = true := entersB_of Tryd.func58 (by kernel_rfl)
theorem en_59 : entersB Tryd.prog 59 = true := entersB_of Tryd.func59 (by kernel_rfl)
theorem en_60 : entersB Tryd.prog 60 = true := entersB_of Tryd.func60 (by kernel_rfl)
theorem en_61 : entersB Tryd.prog 61 = true := entersB_of Tryd.func61 (by kernel_rfl)
theorem en_62 : entersB Tryd.prog 62 = true := entersB_of Tryd.func62 (by kernel_rfl)
theorem en_63 : entersB Tryd.prog 63 = true := entersB_of Tryd.func63 (by kernel_rfl)
theorem en_66 : entersB Tryd.prog 66 = true := entersB_of Tryd.func66 (by kernel_rfl)
theorem en_67 : entersB Tryd.prog 67 = true := entersB_of Tryd.func67 (by kernel_rfl)
theorem en_68 : entersB Tryd.prog 68 = true := entersB_of Tryd.func68 (by kernel_rfl)
theorem en_69 : entersB Tryd.prog 69 = true := entersB_of Tryd.func69 (by kernel_rfl)
theorem en_70 : entersB Tryd.prog 70 = true := entersB_of Tryd.func70 (by kernel_rfl)
theorem en_71 : entersB Tryd.prog 71 = true := entersB_of Tryd.func71 (by kernel_rfl)
theorem en_72 : entersB Tryd.prog 72 = true := entersB_of Tryd.func72 (by kernel_rfl)
theorem en_73 : entersB Tryd.prog 73 = true := entersB_of Tryd.func73 (by kernel_rfl)
theorem en_74 : entersB Tryd.prog 74 = true := entersB_of Tryd.func74 (by kernel_rfl)
theorem en_75 : entersB Tryd.prog 75 = true := entersB_of Tryd.func75 (by kernel_rfl)
theorem en_76 : entersB Tryd.prog 76 = true := entersB_of Tryd.func76 (by kernel_rfl)
theorem en_77 : entersB Tryd.prog 77 = true := entersB_of Tryd.func77 (by kernel_rfl)
theorem en_78 : entersB Tryd.prog 78 = true := entersB_of Tryd.func78 (by kernel_rfl)
theorem en_79 : entersB Tryd.prog 79 = true := entersB_of Tryd.func79 (by kernel_rfl)
theorem en_80 : entersB Tryd.prog 80 = true := entersB_of Tryd.func80 (by kernel_rfl)
theorem en_81 : entersB Tryd.prog 81 = true := entersB_of Tryd.func81 (by kernel_rfl)
theorem en_82 : entersB Tryd.prog 82 = true := entersB_of Tryd.func82 (by kernel_rfl)
theorem en_83 : entersB Tryd.prog 83 = true := entersB_of Tryd.func83 (by kernel_rfl)
theorem en_84 : entersB Tryd.prog 84 = true := entersB_of Tryd.func84 (by kernel_rfl)
theorem en_85 : entersB Tryd.prog 85 = true := entersB_of Tryd.func85 (by kernel_rfl)
theorem en_86 : entersB Tryd.prog 86 = true := entersB_of Tryd.func86 (by kernel_rfl)
theorem en_87 : entersB Tryd.prog 87 = true := entersB_of Tryd.func87 (by kernel_rfl)
theorem en_88 : entersB Tryd.prog 88 = true := entersB_of Tryd.func88 (by kernel_rfl)
theorem en_89 : entersB Tryd.prog 89 = true := entersB_of Tryd.func89 (by kernel_rfl)
theorem en_90 : entersB Tryd.prog 90 = true := entersB_of Tryd.func90 (by kernel_rfl)
theorem en_91 : entersB Tryd.prog 91 = true := entersB_of Tryd.func91 (by kernel_rfl)
theorem en_92 : entersB Tryd.prog 92 = true := entersB_of Tryd.func92 (by kernel_rfl)
theorem en_93 : entersB Tryd.prog 93 = true := entersB_of Tryd.func93 (by kernel_rfl)
theorem en_94 : entersB Tryd.prog 94 = true := entersB_of Tryd.func94 (by kernel_rfl)
end Go.Proofs.YtdmdgkpjjpijdaaDoor
