/- Facts on the program of seat YtgbafmjgfbgeoaaDoor, for the walks: written by program (genfacts.py) off the translation's type table. -/
import Derived.Test.YtgbafmjgfbgeoaaDoorProg
import Derived.Test.YtgbafmjgfbgeoaaDoorKg
import Derived.KernelRfl

namespace Go.Proofs.YtgbafmjgfbgeoaaDoor
open Go Go.K
variable {K : Value → Prop}
theorem mixed : Tryd.prog.follows .mixedOrders = true := by kernel_rfl
@[push_cast] theorem fa_25_0 (b o : Nat) : PureX Tryd.prog (Instr.fieldAt 25 (.pointer (some ⟨b, o, none⟩)) 0) (tag K) = K (.pointer (some ⟨b, o, none⟩)) := px (fun w => by kernel_rfl) K
@[push_cast] theorem fa_25_1 (b o : Nat) : PureX Tryd.prog (Instr.fieldAt 25 (.pointer (some ⟨b, o, none⟩)) 1) (tag K) = K (.pointer (some ⟨b, o + 1, none⟩)) := px (fun w => by kernel_rfl) K
@[push_cast] theorem fa_36_0 (b o : Nat) : PureX Tryd.prog (Instr.fieldAt 36 (.pointer (some ⟨b, o, none⟩)) 0) (tag K) = K (.pointer (some ⟨b, o, none⟩)) := px (fun w => by kernel_rfl) K
@[push_cast] theorem fa_36_1 (b o : Nat) : PureX Tryd.prog (Instr.fieldAt 36 (.pointer (some ⟨b, o, none⟩)) 1) (tag K) = K (.pointer (some ⟨b, o + 1, none⟩)) := px (fun w => by kernel_rfl) K
@[push_cast] theorem fa_36_2 (b o : Nat) : PureX Tryd.prog (Instr.fieldAt 36 (.pointer (some ⟨b, o, none⟩)) 2) (tag K) = K (.pointer (some ⟨b, o + 2, none⟩)) := px (fun w => by kernel_rfl) K
@[push_cast] theorem fa_36_3 (b o : Nat) : PureX Tryd.prog (Instr.fieldAt 36 (.pointer (some ⟨b, o, none⟩)) 3) (tag K) = K (.pointer (some ⟨b, o + 3, none⟩)) := px (fun w => by kernel_rfl) K
@[push_cast] theorem fa_36_4 (b o : Nat) : PureX Tryd.prog (Instr.fieldAt 36 (.pointer (some ⟨b, o, none⟩)) 4) (tag K) = K (.pointer (some ⟨b, o + 4, none⟩)) := px (fun w => by kernel_rfl) K
@[push_cast] theorem fa_38_0 (b o : Nat) : PureX Tryd.prog (Instr.fieldAt 38 (.pointer (some ⟨b, o, none⟩)) 0) (tag K) = K (.pointer (some ⟨b, o, none⟩)) := px (fun w => by kernel_rfl) K
@[push_cast] theorem fa_38_1 (b o : Nat) : PureX Tryd.prog (Instr.fieldAt 38 (.pointer (some ⟨b, o, none⟩)) 1) (tag K) = K (.pointer (some ⟨b, o + 1, none⟩)) := px (fun w => by kernel_rfl) K
@[push_cast] theorem fa_38_2 (b o : Nat) : PureX Tryd.prog (Instr.fieldAt 38 (.pointer (some ⟨b, o, none⟩)) 2) (tag K) = K (.pointer (some ⟨b, o + 2, none⟩)) := px (fun w => by kernel_rfl) K
@[push_cast] theorem fa_41_0 (b o : Nat) : PureX Tryd.prog (Instr.fieldAt 41 (.pointer (some ⟨b, o, none⟩)) 0) (tag K) = K (.pointer (some ⟨b, o, none⟩)) := px (fun w => by kernel_rfl) K
@[push_cast] theorem fa_41_1 (b o : Nat) : PureX Tryd.prog (Instr.fieldAt 41 (.pointer (some ⟨b, o, none⟩)) 1) (tag K) = K (.pointer (some ⟨b, o + 1, none⟩)) := px (fun w => by kernel_rfl) K
@[push_cast] theorem fa_41_2 (b o : Nat) : PureX Tryd.prog (Instr.fieldAt 41 (.pointer (some ⟨b, o, none⟩)) 2) (tag K) = K (.pointer (some ⟨b, o + 8, none⟩)) := px (fun w => by kernel_rfl) K
@[push_cast] theorem fa_41_3 (b o : Nat) : PureX Tryd.prog (Instr.fieldAt 41 (.pointer (some ⟨b, o, none⟩)) 3) (tag K) = K (.pointer (some ⟨b, o + 9, none⟩)) := px (fun w => by kernel_rfl) K
@[push_cast] theorem fa_62_0 (b o : Nat) : PureX Tryd.prog (Instr.fieldAt 62 (.pointer (some ⟨b, o, none⟩)) 0) (tag K) = K (.pointer (some ⟨b, o, none⟩)) := px (fun w => by kernel_rfl) K
@[push_cast] theorem fa_62_1 (b o : Nat) : PureX Tryd.prog (Instr.fieldAt 62 (.pointer (some ⟨b, o, none⟩)) 1) (tag K) = K (.pointer (some ⟨b, o + 1, none⟩)) := px (fun w => by kernel_rfl) K
@[push_cast] theorem fa_74_0 (b o : Nat) : PureX Tryd.prog (Instr.fieldAt 74 (.pointer (some ⟨b, o, none⟩)) 0) (tag K) = K (.pointer (some ⟨b, o, none⟩)) := px (fun w => by kernel_rfl) K
@[push_cast] theorem fa_74_1 (b o : Nat) : PureX Tryd.prog (Instr.fieldAt 74 (.pointer (some ⟨b, o, none⟩)) 1) (tag K) = K (.pointer (some ⟨b, o + 1, none⟩)) := px (fun w => by kernel_rfl) K
@[push_cast] theorem fa_74_2 (b o : Nat) : PureX Tryd.prog (Instr.fieldAt 74 (.pointer (some ⟨b, o, none⟩)) 2) (tag K) = K (.pointer (some ⟨b, o + 2, none⟩)) := px (fun w => by kernel_rfl) K
@[push_cast] theorem fa_74_3 (b o : Nat) : PureX Tryd.prog (Instr.fieldAt 74 (.pointer (some ⟨b, o, none⟩)) 3) (tag K) = K (.pointer (some ⟨b, o + 9, none⟩)) := px (fun w => by kernel_rfl) K
@[push_cast] theorem fa_83_0 (b o : Nat) : PureX Tryd.prog (Instr.fieldAt 83 (.pointer (some ⟨b, o, none⟩)) 0) (tag K) = K (.pointer (some ⟨b, o, none⟩)) := px (fun w => by kernel_rfl) K
@[push_cast] theorem fa_83_1 (b o : Nat) : PureX Tryd.prog (Instr.fieldAt 83 (.pointer (some ⟨b, o, none⟩)) 1) (tag K) = K (.pointer (some ⟨b, o + 1, none⟩)) := px (fun w => by kernel_rfl) K
@[push_cast] theorem fa_83_2 (b o : Nat) : PureX Tryd.prog (Instr.fieldAt 83 (.pointer (some ⟨b, o, none⟩)) 2) (tag K) = K (.pointer (some ⟨b, o + 2, none⟩)) := px (fun w => by kernel_rfl) K
@[push_cast] theorem fa_83_3 (b o : Nat) : PureX Tryd.prog (Instr.fieldAt 83 (.pointer (some ⟨b, o, none⟩)) 3) (tag K) = K (.pointer (some ⟨b, o + 3, none⟩)) := px (fun w => by kernel_rfl) K
@[push_cast] theorem fa_88_0 (b o : Nat) : PureX Tryd.prog (Instr.fieldAt 88 (.pointer (some ⟨b, o, none⟩)) 0) (tag K) = K (.pointer (some ⟨b, o, none⟩)) := px (fun w => by kernel_rfl) K
@[push_cast] theorem fa_88_1 (b o : Nat) : PureX Tryd.prog (Instr.fieldAt 88 (.pointer (some ⟨b, o, none⟩)) 1) (tag K) = K (.pointer (some ⟨b, o + 1, none⟩)) := px (fun w => by kernel_rfl) K
@[push_cast] theorem sh_3 : shapeOf Tryd.prog 3 = some (false, 1) := by kernel_rfl
@[push_cast] theorem sz_3 : (Tryd.prog.info? 3).map (·.size) = some 1 := by kernel_rfl
instance : Shp Tryd.prog 3 false 1 := ⟨sh_3⟩
instance : Siz Tryd.prog 3 1 := ⟨sz_3⟩
@[push_cast] theorem sh_4 : shapeOf Tryd.prog 4 = some (false, 1) := by kernel_rfl
@[push_cast] theorem sz_4 : (Tryd.prog.info? 4).map (·.size) = some 1 := by kernel_rfl
instance : Shp Tryd.prog 4 false 1 := ⟨sh_4⟩
instance : Siz Tryd.prog 4 1 := ⟨sz_4⟩
@[push_cast] theorem sh_5 : shapeOf Tryd.prog 5 = some (false, 1) := by kernel_rfl
@[push_cast] theorem sz_5 : (Tryd.prog.info? 5).map (·.size) = some 1 := by kernel_rfl
instance : Shp Tryd.prog 5 false 1 := ⟨sh_5⟩
instance : Siz Tryd.prog 5 1 := ⟨sz_5⟩
@[push_cast] theorem sh_9 : shapeOf Tryd.prog 9 = some (false, 1) := by kernel_rfl
@[push_cast] theorem sz_9 : (Tryd.prog.info? 9).map (·.size) = some 1 := by kernel_rfl
instance : Shp Tryd.prog 9 false 1 := ⟨sh_9⟩
instance : Siz Tryd.prog 9 1 := ⟨sz_9⟩
@[push_cast] theorem sh_22 : shapeOf Tryd.prog 22 = some (false, 1) := by kernel_rfl
@[push_cast] theorem sz_22 : (Tryd.prog.info? 22).map (·.size) = some 1 := by kernel_rfl
instance : Shp Tryd.prog 22 false 1 := ⟨sh_22⟩
instance : Siz Tryd.prog 22 1 := ⟨sz_22⟩
@[push_cast] theorem sh_23 : shapeOf Tryd.prog 23 = some (false, 1) := by kernel_rfl
@[push_cast] theorem sz_23 : (Tryd.prog.info? 23).map (·.size) = some 1 := by kernel_rfl
instance : Shp Tryd.prog 23 false 1 := ⟨sh_23⟩
instance : Siz Tryd.prog 23 1 := ⟨sz_23⟩
@[push_cast] theorem sh_25 : shapeOf Tryd.prog 25 = some (true, 2) := by kernel_rfl
@[push_cast] theorem sz_25 : (Tryd.prog.info? 25).map (·.size) = some 2 := by kernel_rfl
instance : Shp Tryd.prog 25 true 2 := ⟨sh_25⟩
instance : Siz Tryd.prog 25 2 := ⟨sz_25⟩
@[push_cast] theorem sh_26 : shapeOf Tryd.prog 26 = some (false, 1) := by kernel_rfl
@[push_cast] theorem sz_26 : (Tryd.prog.info? 26).map (·.size) = some 1 := by kernel_rfl
instance : Shp Tryd.prog 26 false 1 := ⟨sh_26⟩
instance : Siz Tryd.prog 26 1 := ⟨sz_26⟩
@[push_cast] theorem sh_28 : shapeOf Tryd.prog 28 = some (false, 1) := by kernel_rfl
@[push_cast] theorem sz_28 : (Tryd.prog.info? 28).map (·.size) = some 1 := by kernel_rfl
instance : Shp Tryd.prog 28 false 1 := ⟨sh_28⟩
instance : Siz Tryd.prog 28 1 := ⟨sz_28⟩
@[push_cast] theorem sh_32 : shapeOf Tryd.prog 32 = some (false, 1) := by kernel_rfl
@[push_cast] theorem sz_32 : (Tryd.prog.info? 32).map (·.size) = some 1 := by kernel_rfl
instance : Shp Tryd.prog 32 false 1 := ⟨sh_32⟩
instance : Siz Tryd.prog 32 1 := ⟨sz_32⟩
@[push_cast] theorem sh_36 : shapeOf Tryd.prog 36 = some (true, 5) := by kernel_rfl
@[push_cast] theorem sz_36 : (Tryd.prog.info? 36).map (·.size) = some 5 := by kernel_rfl
instance : Shp Tryd.prog 36 true 5 := ⟨sh_36⟩
instance : Siz Tryd.prog 36 5 := ⟨sz_36⟩
@[push_cast] theorem sh_38 : shapeOf Tryd.prog 38 = some (true, 7) := by kernel_rfl
@[push_cast] theorem sz_38 : (Tryd.prog.info? 38).map (·.size) = some 7 := by kernel_rfl
instance : Shp Tryd.prog 38 true 7 := ⟨sh_38⟩
instance : Siz Tryd.prog 38 7 := ⟨sz_38⟩
@[push_cast] theorem sh_41 : shapeOf Tryd.prog 41 = some (true, 10) := by kernel_rfl
@[push_cast] theorem sz_41 : (Tryd.prog.info? 41).map (·.size) = some 10 := by kernel_rfl
instance : Shp Tryd.prog 41 true 10 := ⟨sh_41⟩
instance : Siz Tryd.prog 41 10 := ⟨sz_41⟩
@[push_cast] theorem sh_45 : shapeOf Tryd.prog 45 = some (false, 1) := by kernel_rfl
@[push_cast] theorem sz_45 : (Tryd.prog.info? 45).map (·.size) = some 1 := by kernel_rfl
instance : Shp Tryd.prog 45 false 1 := ⟨sh_45⟩
instance : Siz Tryd.prog 45 1 := ⟨sz_45⟩
@[push_cast] theorem sh_46 : shapeOf Tryd.prog 46 = some (false, 1) := by kernel_rfl
@[push_cast] theorem sz_46 : (Tryd.prog.info? 46).map (·.size) = some 1 := by kernel_rfl
instance : Shp Tryd.prog 46 false 1 := ⟨sh_46⟩
instance : Siz Tryd.prog 46 1 := ⟨sz_46⟩
@[push_cast] theorem sh_62 : shapeOf Tryd.prog 62 = some (true, 3) := by kernel_rfl
@[push_cast] theorem sz_62 : (Tryd.prog.info? 62).map (·.size) = some 3 := by kernel_rfl
instance : Shp Tryd.prog 62 true 3 := ⟨sh_62⟩
instance : Siz Tryd.prog 62 3 := ⟨sz_62⟩
@[push_cast] theorem sh_69 : shapeOf Tryd.prog 69 = some (false, 1) := by kernel_rfl
@[push_cast] theorem sz_69 : (Tryd.prog.info? 69).map (·.size) = some 1 := by kernel_rfl
instance : Shp Tryd.prog 69 false 1 := ⟨sh_69⟩
instance : Siz Tryd.prog 69 1 := ⟨sz_69⟩
@[push_cast] theorem sh_74 : shapeOf Tryd.prog 74 = some (true, 10) := by kernel_rfl
@[push_cast] theorem sz_74 : (Tryd.prog.info? 74).map (·.size) = some 10 := by kernel_rfl
instance : Shp Tryd.prog 74 true 10 := ⟨sh_74⟩
instance : Siz Tryd.prog 74 10 := ⟨sz_74⟩
@[push_cast] theorem sh_84 : shapeOf Tryd.prog 84 = some (true, 84) := by kernel_rfl
@[push_cast] theorem sz_84 : (Tryd.prog.info? 84).map (·.size) = some 84 := by kernel_rfl
instance : Shp Tryd.prog 84 true 84 := ⟨sh_84⟩
instance : Siz Tryd.prog 84 84 := ⟨sz_84⟩
@[push_cast] theorem sh_88 : shapeOf Tryd.prog 88 = some (true, 2) := by kernel_rfl
@[push_cast] theorem sz_88 : (Tryd.prog.info? 88).map (·.size) = some 2 := by kernel_rfl
instance : Shp Tryd.prog 88 true 2 := ⟨sh_88⟩
instance : Siz Tryd.prog 88 2 := ⟨sz_88⟩
@[push_cast] theorem sh_89 : shapeOf Tryd.prog 89 = some (false, 1) := by kernel_rfl
@[push_cast] theorem sz_89 : (Tryd.prog.info? 89).map (·.size) = some 1 := by kernel_rfl
instance : Shp Tryd.prog 89 false 1 := ⟨sh_89⟩
instance : Siz Tryd.prog 89 1 := ⟨sz_89⟩
@[push_cast] theorem sh_96 : shapeOf Tryd.prog 96 = some (false, 1) := by kernel_rfl
@[push_cast] theorem sz_96 : (Tryd.prog.info? 96).map (·.size) = some 1 := by kernel_rfl
instance : Shp Tryd.prog 96 false 1 := ⟨sh_96⟩
instance : Siz Tryd.prog 96 1 := ⟨sz_96⟩
@[push_cast] theorem sh_97 : shapeOf Tryd.prog 97 = some (false, 1) := by kernel_rfl
@[push_cast] theorem sz_97 : (Tryd.prog.info? 97).map (·.size) = some 1 := by kernel_rfl
instance : Shp Tryd.prog 97 false 1 := ⟨sh_97⟩
instance : Siz Tryd.prog 97 1 := ⟨sz_97⟩
@[push_cast] theorem sh_107 : shapeOf Tryd.prog 107 = some (false, 1) := by kernel_rfl
@[push_cast] theorem sz_107 : (Tryd.prog.info? 107).map (·.size) = some 1 := by kernel_rfl
instance : Shp Tryd.prog 107 false 1 := ⟨sh_107⟩
instance : Siz Tryd.prog 107 1 := ⟨sz_107⟩
@[push_cast] theorem sh_110 : shapeOf Tryd.prog 110 = some (true, 24) := by kernel_rfl
@[push_cast] theorem sz_110 : (Tryd.prog.info? 110).map (·.size) = some 24 := by kernel_rfl
instance : Shp Tryd.prog 110 true 24 := ⟨sh_110⟩
instance : Siz Tryd.prog 110 24 := ⟨sz_110⟩
@[push_cast] theorem sh_116 : shapeOf Tryd.prog 116 = some (true, 20) := by kernel_rfl
@[push_cast] theorem sz_116 : (Tryd.prog.info? 116).map (·.size) = some 20 := by kernel_rfl
instance : Shp Tryd.prog 116 true 20 := ⟨sh_116⟩
instance : Siz Tryd.prog 116 20 := ⟨sz_116⟩
@[push_cast] theorem sh_118 : shapeOf Tryd.prog 118 = some (true, 65) := by kernel_rfl
@[push_cast] theorem sz_118 : (Tryd.prog.info? 118).map (·.size) = some 65 := by kernel_rfl
instance : Shp Tryd.prog 118 true 65 := ⟨sh_118⟩
instance : Siz Tryd.prog 118 65 := ⟨sz_118⟩
@[push_cast] theorem sh_121 : shapeOf Tryd.prog 121 = some (true, 32) := by kernel_rfl
@[push_cast] theorem sz_121 : (Tryd.prog.info? 121).map (·.size) = some 32 := by kernel_rfl
instance : Shp Tryd.prog 121 true 32 := ⟨sh_121⟩
instance : Siz Tryd.prog 121 32 := ⟨sz_121⟩
@[push_cast] theorem sh_122 : shapeOf Tryd.prog 122 = some (true, 64) := by kernel_rfl
@[push_cast] theorem sz_122 : (Tryd.prog.info? 122).map (·.size) = some 64 := by kernel_rfl
instance : Shp Tryd.prog 122 true 64 := ⟨sh_122⟩
instance : Siz Tryd.prog 122 64 := ⟨sz_122⟩
@[push_cast] theorem al_3 (wb : World) (L : Own) (K : Value → Own → Prop) : AllocX Tryd.prog 3 wb L (tag K) = NewX wb L (.cells #[.int .i64 0] 3 (0, 0)) (tag fun b L => K (.pointer (some ⟨b, 0, none⟩)) L) := allocX_eq (z := .int .i64 0) (by kernel_rfl) wb L K
@[push_cast] theorem al_4 (wb : World) (L : Own) (K : Value → Own → Prop) : AllocX Tryd.prog 4 wb L (tag K) = NewX wb L (.cells #[.bool false] 4 (0, 0)) (tag fun b L => K (.pointer (some ⟨b, 0, none⟩)) L) := allocX_eq (z := .bool false) (by kernel_rfl) wb L K
@[push_cast] theorem al_22 (wb : World) (L : Own) (K : Value → Own → Prop) : AllocX Tryd.prog 22 wb L (tag K) = NewX wb L (.cells #[.slice none 0 0] 22 (0, 0)) (tag fun b L => K (.pointer (some ⟨b, 0, none⟩)) L) := allocX_eq (z := .slice none 0 0) (by kernel_rfl) wb L K
@[push_cast] theorem al_25 (wb : World) (L : Own) (K : Value → Own → Prop) : AllocX Tryd.prog 25 wb L (tag K) = NewX wb L (.cells #[.slice none 0 0, .slice none 0 0] 25 (0, 0)) (tag fun b L => K (.pointer (some ⟨b, 0, none⟩)) L) := allocX_eq (z := .agg #[.slice none 0 0, .slice none 0 0]) (by kernel_rfl) wb L K
@[push_cast] theorem al_28 (wb : World) (L : Own) (K : Value → Own → Prop) : AllocX Tryd.prog 28 wb L (tag K) = NewX wb L (.cells #[.slice none 0 0] 28 (0, 0)) (tag fun b L => K (.pointer (some ⟨b, 0, none⟩)) L) := allocX_eq (z := .slice none 0 0) (by kernel_rfl) wb L K
@[push_cast] theorem al_32 (wb : World) (L : Own) (K : Value → Own → Prop) : AllocX Tryd.prog 32 wb L (tag K) = NewX wb L (.cells #[.nilFunc] 32 (0, 0)) (tag fun b L => K (.pointer (some ⟨b, 0, none⟩)) L) := allocX_eq (z := .nilFunc) (by kernel_rfl) wb L K
@[push_cast] theorem al_36 (wb : World) (L : Own) (K : Value → Own → Prop) : AllocX Tryd.prog 36 wb L (tag K) = NewX wb L (.cells #[.int .i64 0, .int .i64 0, .int .i64 0, .int .i64 0, .slice none 0 0] 36 (0, 0)) (tag fun b L => K (.pointer (some ⟨b, 0, none⟩)) L) := allocX_eq (z := .agg #[.int .i64 0, .int .i64 0, .int .i64 0, .int .i64 0, .slice none 0 0]) (by kernel_rfl) wb L K
@[push_cast] theorem al_38 (wb : World) (L : Own) (K : Value → Own → Prop) : AllocX Tryd.prog 38 wb L (tag K) = NewX wb L (.cells #[.string ⟨#[]⟩, .bool false, .int .i64 0, .int .i64 0, .int .i64 0, .int .i64 0, .slice none 0 0] 38 (0, 0)) (tag fun b L => K (.pointer (some ⟨b, 0, none⟩)) L) := allocX_eq (z := .agg #[.string ⟨#[]⟩, .bool false, .int .i64 0, .int .i64 0, .int .i64 0, .int .i64 0, .slice none 0 0]) (by kernel_rfl) wb L K
@[push_cast] theorem al_41 (wb : World) (L : Own) (K : Value → Own → Prop) : AllocX Tryd.prog 41 wb L (tag K) = NewX wb L (.cells #[.slice none 0 0, .string ⟨#[]⟩, .bool false, .int .i64 0, .int .i64 0, .int .i64 0, .int .i64 0, .slice none 0 0, .slice none 0 0, .bool false] 41 (0, 0)) (tag fun b L => K (.pointer (some ⟨b, 0, none⟩)) L) := allocX_eq (z := .agg #[.slice none 0 0, .string ⟨#[]⟩, .bool false, .int .i64 0, .int .i64 0, .int .i64 0, .int .i64 0, .slice none 0 0, .slice none 0 0, .bool false]) (by kernel_rfl) wb L K
@[push_cast] theorem al_45 (wb : World) (L : Own) (K : Value → Own → Prop) : AllocX Tryd.prog 45 wb L (tag K) = NewX wb L (.cells #[.slice none 0 0] 45 (0, 0)) (tag fun b L => K (.pointer (some ⟨b, 0, none⟩)) L) := allocX_eq (z := .slice none 0 0) (by kernel_rfl) wb L K
@[push_cast] theorem al_62 (wb : World) (L : Own) (K : Value → Own → Prop) : AllocX Tryd.prog 62 wb L (tag K) = NewX wb L (.cells #[.int .i64 0, .slice none 0 0, .int .i64 0] 62 (0, 0)) (tag fun b L => K (.pointer (some ⟨b, 0, none⟩)) L) := allocX_eq (z := .agg #[.int .i64 0, .slice none 0 0, .int .i64 0]) (by kernel_rfl) wb L K
@[push_cast] theorem al_74 (wb : World) (L : Own) (K : Value → Own → Prop) : AllocX Tryd.prog 74 wb L (tag K) = NewX wb L (.cells #[.slice none 0 0, .slice none 0 0, .string ⟨#[]⟩, .bool false, .int .i64 0, .int .i64 0, .int .i64 0, .int .i64 0, .slice none 0 0, .bool false] 74 (0, 0)) (tag fun b L => K (.pointer (some ⟨b, 0, none⟩)) L) := allocX_eq (z := .agg #[.slice none 0 0, .slice none 0 0, .string ⟨#[]⟩, .bool false, .int .i64 0, .int .i64 0, .int .i64 0, .int .i64 0, .slice none 0 0, .bool false]) (by kernel_rfl) wb L K
@[push_cast] theorem al_88 (wb : World) (L : Own) (K : Value → Own → Prop) : AllocX Tryd.prog 88 wb L (tag K) = NewX wb L (.cells #[.string ⟨#[]⟩, .string ⟨#[]⟩] 88 (0, 0)) (tag fun b L => K (.pointer (some ⟨b, 0, none⟩)) L) := allocX_eq (z := .agg #[.string ⟨#[]⟩, .string ⟨#[]⟩]) (by kernel_rfl) wb L K
@[push_cast] theorem al_89 (wb : World) (L : Own) (K : Value → Own → Prop) : AllocX Tryd.prog 89 wb L (tag K) = NewX wb L (.cells #[.map none] 89 (0, 0)) (tag fun b L => K (.pointer (some ⟨b, 0, none⟩)) L) := allocX_eq (z := .map none) (by kernel_rfl) wb L K
@[push_cast] theorem al_97 (wb : World) (L : Own) (K : Value → Own → Prop) : AllocX Tryd.prog 97 wb L (tag K) = NewX wb L (.cells #[.nilFunc] 97 (0, 0)) (tag fun b L => K (.pointer (some ⟨b, 0, none⟩)) L) := allocX_eq (z := .nilFunc) (by kernel_rfl) wb L K
@[push_cast] theorem al_110 (wb : World) (L : Own) (K : Value → Own → Prop) : AllocX Tryd.prog 110 wb L (tag K) = NewX wb L (.cells #[.int .u8 0, .int .u8 0, .int .u8 0, .int .u8 0, .int .u8 0, .int .u8 0, .int .u8 0, .int .u8 0, .int .u8 0, .int .u8 0, .int .u8 0, .int .u8 0, .int .u8 0, .int .u8 0, .int .u8 0, .int .u8 0, .int .u8 0, .int .u8 0, .int .u8 0, .int .u8 0, .int .u8 0, .int .u8 0, .int .u8 0, .int .u8 0] 110 (0, 0)) (tag fun b L => K (.pointer (some ⟨b, 0, none⟩)) L) := allocX_eq (z := .agg #[.int .u8 0, .int .u8 0, .int .u8 0, .int .u8 0, .int .u8 0, .int .u8 0, .int .u8 0, .int .u8 0, .int .u8 0, .int .u8 0, .int .u8 0, .int .u8 0, .int .u8 0, .int .u8 0, .int .u8 0, .int .u8 0, .int .u8 0, .int .u8 0, .int .u8 0, .int .u8 0, .int .u8 0, .int .u8 0, .int .u8 0, .int .u8 0]) (by kernel_rfl) wb L K
theorem un_22 : Tryd.prog.underlying 22 = some (.slice 38) := by kernel_rfl
theorem ez_22 : (Tryd.prog.info? 38).map (·.size) = some 7 := by kernel_rfl
@[push_cast] theorem ix_22 (b off n c : Nat) (k : IntKind) (i : Int) (h0 : 0 ≤ i) (h1 : i < n) : PureX Tryd.prog (Instr.indexAt 22 (.slice (some ⟨b, off, none⟩) n c) (.int k i)) (tag K) = K (.pointer (some ⟨b, off + i.toNat * 7, none⟩)) := idxS b off n c k un_22 ez_22 i h0 h1
@[push_cast] theorem sHi_22 (b off n c : Nat) (k : IntKind) (i : Int) (h0 : 0 ≤ i) (h1 : i ≤ c) : PureX Tryd.prog (Instr.sliceAt 22 (.slice (some ⟨b, off, none⟩) n c) none (some (.int k i)) none) (tag K) = K (.slice (some ⟨b, off, none⟩) i.toNat c) := slHi n c k un_22 ez_22 i _ (fun x h => by cases h; rfl) h0 h1
@[push_cast] theorem sLo_22 (b off n c : Nat) (k : IntKind) (i : Int) (h0 : 0 ≤ i) (h1 : i ≤ n) : PureX Tryd.prog (Instr.sliceAt 22 (.slice (some ⟨b, off, none⟩) n c) (some (.int k i)) none none) (tag K) = K (.slice (some ⟨b, if c = i.toNat then off else off + i.toNat * 7, none⟩) (n - i.toNat) (c - i.toNat)) := slLo b off n c k un_22 ez_22 i h0 h1
@[push_cast] theorem sLoHi_22 (b off n c : Nat) (k : IntKind) (i j : Int) (h0 : 0 ≤ i) (h1 : i ≤ j) (h2 : j ≤ c) : PureX Tryd.prog (Instr.sliceAt 22 (.slice (some ⟨b, off, none⟩) n c) (some (.int k i)) (some (.int k j)) none) (tag K) = K (.slice (some ⟨b, if c = i.toNat then off else off + i.toNat * 7, none⟩) (j.toNat - i.toNat) (c - i.toNat)) := slLoHi b off n c k un_22 ez_22 i j h0 h1 h2
@[push_cast] theorem sHiMax_22 (n c : Nat) (a : Option Addr) (k : IntKind) (i j : Int) (h0 : 0 ≤ i) (h1 : i ≤ j) (h2 : j ≤ c) : PureX Tryd.prog (Instr.sliceAt 22 (.slice a n c) none (some (.int k i)) (some (.int k j))) (tag K) = K (.slice a i.toNat j.toNat) := slHiMax n c k un_22 ez_22 i j a h0 h1 h2
theorem un_23 : Tryd.prog.underlying 23 = some (.slice 88) := by kernel_rfl
theorem ez_23 : (Tryd.prog.info? 88).map (·.size) = some 2 := by kernel_rfl
@[push_cast] theorem ix_23 (b off n c : Nat) (k : IntKind) (i : Int) (h0 : 0 ≤ i) (h1 : i < n) : PureX Tryd.prog (Instr.indexAt 23 (.slice (some ⟨b, off, none⟩) n c) (.int k i)) (tag K) = K (.pointer (some ⟨b, off + i.toNat * 2, none⟩)) := idxS b off n c k un_23 ez_23 i h0 h1
theorem un_26 : Tryd.prog.underlying 26 = some (.slice 3) := by kernel_rfl
theorem ez_26 : (Tryd.prog.info? 3).map (·.size) = some 1 := by kernel_rfl
@[push_cast] theorem ix_26 (b off n c : Nat) (k : IntKind) (i : Int) (h0 : 0 ≤ i) (h1 : i < n) : PureX Tryd.prog (Instr.indexAt 26 (.slice (some ⟨b, off, none⟩) n c) (.int k i)) (tag K) = K (.pointer (some ⟨b, off + i.toNat * 1, none⟩)) := idxS b off n c k un_26 ez_26 i h0 h1
@[push_cast] theorem sHi_26 (b off n c : Nat) (k : IntKind) (i : Int) (h0 : 0 ≤ i) (h1 : i ≤ c) : PureX Tryd.prog (Instr.sliceAt 26 (.slice (some ⟨b, off, none⟩) n c) none (some (.int k i)) none) (tag K) = K (.slice (some ⟨b, off, none⟩) i.toNat c) := slHi n c k un_26 ez_26 i _ (fun x h => by cases h; rfl) h0 h1
@[push_cast] theorem sLo_26 (b off n c : Nat) (k : IntKind) (i : Int) (h0 : 0 ≤ i) (h1 : i ≤ n) : PureX Tryd.prog (Instr.sliceAt 26 (.slice (some ⟨b, off, none⟩) n c) (some (.int k i)) none none) (tag K) = K (.slice (some ⟨b, if c = i.toNat then off else off + i.toNat * 1, none⟩) (n - i.toNat) (c - i.toNat)) := slLo b off n c k un_26 ez_26 i h0 h1
@[push_cast] theorem sLoHi_26 (b off n c : Nat) (k : IntKind) (i j : Int) (h0 : 0 ≤ i) (h1 : i ≤ j) (h2 : j ≤ c) : PureX Tryd.prog (Instr.sliceAt 26 (.slice (some ⟨b, off, none⟩) n c) (some (.int k i)) (some (.int k j)) none) (tag K) = K (.slice (some ⟨b, if c = i.toNat then off else off + i.toNat * 1, none⟩) (j.toNat - i.toNat) (c - i.toNat)) := slLoHi b off n c k un_26 ez_26 i j h0 h1 h2
@[push_cast] theorem sHiMax_26 (n c : Nat) (a : Option Addr) (k : IntKind) (i j : Int) (h0 : 0 ≤ i) (h1 : i ≤ j) (h2 : j ≤ c) : PureX Tryd.prog (Instr.sliceAt 26 (.slice a n c) none (some (.int k i)) (some (.int k j))) (tag K) = K (.slice a i.toNat j.toNat) := slHiMax n c k un_26 ez_26 i j a h0 h1 h2
theorem un_28 : Tryd.prog.underlying 28 = some (.slice 41) := by kernel_rfl
theorem ez_28 : (Tryd.prog.info? 41).map (·.size) = some 10 := by kernel_rfl
@[push_cast] theorem ix_28 (b off n c : Nat) (k : IntKind) (i : Int) (h0 : 0 ≤ i) (h1 : i < n) : PureX Tryd.prog (Instr.indexAt 28 (.slice (some ⟨b, off, none⟩) n c) (.int k i)) (tag K) = K (.pointer (some ⟨b, off + i.toNat * 10, none⟩)) := idxS b off n c k un_28 ez_28 i h0 h1
@[push_cast] theorem sHi_28 (b off n c : Nat) (k : IntKind) (i : Int) (h0 : 0 ≤ i) (h1 : i ≤ c) : PureX Tryd.prog (Instr.sliceAt 28 (.slice (some ⟨b, off, none⟩) n c) none (some (.int k i)) none) (tag K) = K (.slice (some ⟨b, off, none⟩) i.toNat c) := slHi n c k un_28 ez_28 i _ (fun x h => by cases h; rfl) h0 h1
@[push_cast] theorem sLo_28 (b off n c : Nat) (k : IntKind) (i : Int) (h0 : 0 ≤ i) (h1 : i ≤ n) : PureX Tryd.prog (Instr.sliceAt 28 (.slice (some ⟨b, off, none⟩) n c) (some (.int k i)) none none) (tag K) = K (.slice (some ⟨b, if c = i.toNat then off else off + i.toNat * 10, none⟩) (n - i.toNat) (c - i.toNat)) := slLo b off n c k un_28 ez_28 i h0 h1
@[push_cast] theorem sLoHi_28 (b off n c : Nat) (k : IntKind) (i j : Int) (h0 : 0 ≤ i) (h1 : i ≤ j) (h2 : j ≤ c) : PureX Tryd.prog (Instr.sliceAt 28 (.slice (some ⟨b, off, none⟩) n c) (some (.int k i)) (some (.int k j)) none) (tag K) = K (.slice (some ⟨b, if c = i.toNat then off else off + i.toNat * 10, none⟩) (j.toNat - i.toNat) (c - i.toNat)) := slLoHi b off n c k un_28 ez_28 i j h0 h1 h2
@[push_cast] theorem sHiMax_28 (n c : Nat) (a : Option Addr) (k : IntKind) (i j : Int) (h0 : 0 ≤ i) (h1 : i ≤ j) (h2 : j ≤ c) : PureX Tryd.prog (Instr.sliceAt 28 (.slice a n c) none (some (.int k i)) (some (.int k j))) (tag K) = K (.slice a i.toNat j.toNat) := slHiMax n c k un_28 ez_28 i j a h0 h1 h2
theorem un_45 : Tryd.prog.underlying 45 = some (.slice 26) := by kernel_rfl
theorem ez_45 : (Tryd.prog.info? 26).map (·.size) = some 1 := by kernel_rfl
@[push_cast] theorem ix_45 (b off n c : Nat) (k : IntKind) (i : Int) (h0 : 0 ≤ i) (h1 : i < n) : PureX Tryd.prog (Instr.indexAt 45 (.slice (some ⟨b, off, none⟩) n c) (.int k i)) (tag K) = K (.pointer (some ⟨b, off + i.toNat * 1, none⟩)) := idxS b off n c k un_45 ez_45 i h0 h1
theorem un_76 : Tryd.prog.underlying 76 = some (.slice 5) := by kernel_rfl
theorem ez_76 : (Tryd.prog.info? 5).map (·.size) = some 1 := by kernel_rfl
@[push_cast] theorem ix_76 (b off n c : Nat) (k : IntKind) (i : Int) (h0 : 0 ≤ i) (h1 : i < n) : PureX Tryd.prog (Instr.indexAt 76 (.slice (some ⟨b, off, none⟩) n c) (.int k i)) (tag K) = K (.pointer (some ⟨b, off + i.toNat * 1, none⟩)) := idxS b off n c k un_76 ez_76 i h0 h1
theorem ua_84 : Tryd.prog.underlying 84 = some (.array 21 83) := by kernel_rfl
theorem ez_84 : (Tryd.prog.info? 83).map (·.size) = some 4 := by kernel_rfl
@[push_cast] theorem ix_84 (b off : Nat) (k : IntKind) (i : Int) (h0 : 0 ≤ i) (h1 : i < (21 : Nat)) : PureX Tryd.prog (Instr.indexAt 84 (.pointer (some ⟨b, off, none⟩)) (.int k i)) (tag K) = K (.pointer (some ⟨b, off + i.toNat * 4, none⟩)) := idxA b off k ua_84 ez_84 i h0 h1
theorem ua_116 : Tryd.prog.underlying 116 = some (.array 20 107) := by kernel_rfl
theorem ez_116 : (Tryd.prog.info? 107).map (·.size) = some 1 := by kernel_rfl
@[push_cast] theorem ix_116 (b off : Nat) (k : IntKind) (i : Int) (h0 : 0 ≤ i) (h1 : i < (20 : Nat)) : PureX Tryd.prog (Instr.indexAt 116 (.pointer (some ⟨b, off, none⟩)) (.int k i)) (tag K) = K (.pointer (some ⟨b, off + i.toNat * 1, none⟩)) := idxA b off k ua_116 ez_116 i h0 h1
theorem ua_118 : Tryd.prog.underlying 118 = some (.array 65 5) := by kernel_rfl
theorem ez_118 : (Tryd.prog.info? 5).map (·.size) = some 1 := by kernel_rfl
@[push_cast] theorem ix_118 (b off : Nat) (k : IntKind) (i : Int) (h0 : 0 ≤ i) (h1 : i < (65 : Nat)) : PureX Tryd.prog (Instr.indexAt 118 (.pointer (some ⟨b, off, none⟩)) (.int k i)) (tag K) = K (.pointer (some ⟨b, off + i.toNat * 1, none⟩)) := idxA b off k ua_118 ez_118 i h0 h1
theorem ua_121 : Tryd.prog.underlying 121 = some (.array 32 5) := by kernel_rfl
theorem ez_121 : (Tryd.prog.info? 5).map (·.size) = some 1 := by kernel_rfl
@[push_cast] theorem ix_121 (b off : Nat) (k : IntKind) (i : Int) (h0 : 0 ≤ i) (h1 : i < (32 : Nat)) : PureX Tryd.prog (Instr.indexAt 121 (.pointer (some ⟨b, off, none⟩)) (.int k i)) (tag K) = K (.pointer (some ⟨b, off + i.toNat * 1, none⟩)) := idxA b off k ua_121 ez_121 i h0 h1
theorem ua_122 : Tryd.prog.underlying 122 = some (.array 64 5) := by kernel_rfl
theorem ez_122 : (Tryd.prog.info? 5).map (·.size) = some 1 := by kernel_rfl
@[push_cast] theorem ix_122 (b off : Nat) (k : IntKind) (i : Int) (h0 : 0 ≤ i) (h1 : i < (64 : Nat)) : PureX Tryd.prog (Instr.indexAt 122 (.pointer (some ⟨b, off, none⟩)) (.int k i)) (tag K) = K (.pointer (some ⟨b, off + i.toNat * 1, none⟩)) := idxA b off k ua_122 ez_122 i h0 h1
@[push_cast] theorem ln_9 (ty : TypeId) (l : List UInt8) : PureX Tryd.prog (Builtin.len_ #[9] ty #[.string ⟨l.toArray⟩]) (tag K) = K (.int .i64 l.length) := px (fun w => by kernel_rfl) K
@[push_cast] theorem ln_10 (ty : TypeId) (l : List UInt8) : PureX Tryd.prog (Builtin.len_ #[10] ty #[.string ⟨l.toArray⟩]) (tag K) = K (.int .i64 l.length) := px (fun w => by kernel_rfl) K
@[push_cast] theorem ln_11 (ty : TypeId) (l : List UInt8) : PureX Tryd.prog (Builtin.len_ #[11] ty #[.string ⟨l.toArray⟩]) (tag K) = K (.int .i64 l.length) := px (fun w => by kernel_rfl) K
@[push_cast] theorem ln_22 (ty : TypeId) (a : Option Addr) (n c : Nat) : PureX Tryd.prog (Builtin.len_ #[22] ty #[.slice a n c]) (tag K) = K (.int .i64 n) := px (fun w => by kernel_rfl) K
@[push_cast] theorem ln_23 (ty : TypeId) (a : Option Addr) (n c : Nat) : PureX Tryd.prog (Builtin.len_ #[23] ty #[.slice a n c]) (tag K) = K (.int .i64 n) := px (fun w => by kernel_rfl) K
@[push_cast] theorem ln_26 (ty : TypeId) (a : Option Addr) (n c : Nat) : PureX Tryd.prog (Builtin.len_ #[26] ty #[.slice a n c]) (tag K) = K (.int .i64 n) := px (fun w => by kernel_rfl) K
@[push_cast] theorem ln_28 (ty : TypeId) (a : Option Addr) (n c : Nat) : PureX Tryd.prog (Builtin.len_ #[28] ty #[.slice a n c]) (tag K) = K (.int .i64 n) := px (fun w => by kernel_rfl) K
@[push_cast] theorem ln_45 (ty : TypeId) (a : Option Addr) (n c : Nat) : PureX Tryd.prog (Builtin.len_ #[45] ty #[.slice a n c]) (tag K) = K (.int .i64 n) := px (fun w => by kernel_rfl) K
@[push_cast] theorem ln_76 (ty : TypeId) (a : Option Addr) (n c : Nat) : PureX Tryd.prog (Builtin.len_ #[76] ty #[.slice a n c]) (tag K) = K (.int .i64 n) := px (fun w => by kernel_rfl) K
theorem us_9 : Tryd.prog.underlying 9 = some .string := by kernel_rfl
@[push_cast] theorem is_9 (l : List UInt8) (k : IntKind) (i : Int) (h0 : 0 ≤ i) (h1 : i < l.length) : PureX Tryd.prog (Instr.index 9 (.string ⟨l.toArray⟩) (.int k i)) (tag K) = K (.int .u8 (l.getD i.toNat 0).toNat) := idxStr l k us_9 i h0 h1
@[push_cast] theorem ssLoHi_9 (l : List UInt8) (k : IntKind) (i j : Int) (h0 : 0 ≤ i) (h1 : i ≤ j) (h2 : j ≤ l.length) : PureX Tryd.prog (Instr.sliceAt 9 (.string ⟨l.toArray⟩) (some (.int k i)) (some (.int k j)) none) (tag K) = K (str ((l.take j.toNat).drop i.toNat)) := slStr l k us_9 i j h0 h1 h2
@[push_cast] theorem ssLo_9 (l : List UInt8) (k : IntKind) (i : Int) (h0 : 0 ≤ i) (h1 : i ≤ l.length) : PureX Tryd.prog (Instr.sliceAt 9 (.string ⟨l.toArray⟩) (some (.int k i)) none none) (tag K) = K (str (l.drop i.toNat)) := slStrLo l k us_9 i h0 h1
@[push_cast] theorem ssHi_9 (l : List UInt8) (k : IntKind) (i : Int) (h0 : 0 ≤ i) (h1 : i ≤ l.length) : PureX Tryd.prog (Instr.sliceAt 9 (.string ⟨l.toArray⟩) none (some (.int k i)) none) (tag K) = K (str (l.take i.toNat)) := slStrHi l k us_9 i h0 h1
theorem ub_4 : Tryd.prog.underlying 4 = some .bool := by kernel_rfl
@[push_cast] theorem be_4 (x y : Operand) (a b : Bool) : PureX Tryd.prog (binV .eql 4 x y (.bool a) (.bool b)) (tag K) = K (.bool (a == b)) := bin_bool_eql x y ub_4 a b
@[push_cast] theorem bn_4 (x y : Operand) (a b : Bool) : PureX Tryd.prog (binV .neq 4 x y (.bool a) (.bool b)) (tag K) = K (.bool (a != b)) := bin_bool_neq x y ub_4 a b
@[push_cast] theorem bu_25_0 (x1a : Option Addr) (x1n x1c : Nat) : PureX Tryd.prog (Instr.build 25 #[(0, .slice x1a x1n x1c)]) (tag K) = K (.agg #[.slice x1a x1n x1c, .slice none 0 0]) := px (fun w => by kernel_rfl) K
@[push_cast] theorem bu_25_0_1 (x2a x3a : Option Addr) (x2n x2c x3n x3c : Nat) : PureX Tryd.prog (Instr.build 25 #[(0, .slice x2a x2n x2c), (1, .slice x3a x3n x3c)]) (tag K) = K (.agg #[.slice x2a x2n x2c, .slice x3a x3n x3c]) := px (fun w => by kernel_rfl) K
@[push_cast] theorem bu_36_0 (x4 : Int) : PureX Tryd.prog (Instr.build 36 #[(0, .int .i64 x4)]) (tag K) = K (.agg #[.int .i64 x4, .int .i64 0, .int .i64 0, .int .i64 0, .slice none 0 0]) := px (fun w => by kernel_rfl) K
@[push_cast] theorem bu_36_0_1_4 (x5 x6 : Int) (x7a : Option Addr) (x7n x7c : Nat) : PureX Tryd.prog (Instr.build 36 #[(0, .int .i64 x5), (1, .int .i64 x6), (4, .slice x7a x7n x7c)]) (tag K) = K (.agg #[.int .i64 x5, .int .i64 x6, .int .i64 0, .int .i64 0, .slice x7a x7n x7c]) := px (fun w => by kernel_rfl) K
@[push_cast] theorem bu_36_0_4 (x8 : Int) (x9a : Option Addr) (x9n x9c : Nat) : PureX Tryd.prog (Instr.build 36 #[(0, .int .i64 x8), (4, .slice x9a x9n x9c)]) (tag K) = K (.agg #[.int .i64 x8, .int .i64 0, .int .i64 0, .int .i64 0, .slice x9a x9n x9c]) := px (fun w => by kernel_rfl) K
@[push_cast] theorem bu_36_4 (x10a : Option Addr) (x10n x10c : Nat) : PureX Tryd.prog (Instr.build 36 #[(4, .slice x10a x10n x10c)]) (tag K) = K (.agg #[.int .i64 0, .int .i64 0, .int .i64 0, .int .i64 0, .slice x10a x10n x10c]) := px (fun w => by kernel_rfl) K
@[push_cast] theorem bu_38_  : PureX Tryd.prog (Instr.build 38 #[]) (tag K) = K (.agg #[.string ⟨#[]⟩, .bool false, .int .i64 0, .int .i64 0, .int .i64 0, .int .i64 0, .slice none 0 0]) := px (fun w => by kernel_rfl) K
@[push_cast] theorem bu_38_0 (x11 : ByteArray) : PureX Tryd.prog (Instr.build 38 #[(0, .string x11)]) (tag K) = K (.agg #[.string x11, .bool false, .int .i64 0, .int .i64 0, .int .i64 0, .int .i64 0, .slice none 0 0]) := px (fun w => by kernel_rfl) K
@[push_cast] theorem bu_38_0_1_2 (x12 : ByteArray) (x13 : Bool) (x14 x15 x16 x17 : Int) (x18a : Option Addr) (x18n x18c : Nat) : PureX Tryd.prog (Instr.build 38 #[(0, .string x12), (1, .bool x13), (2, .agg #[.int .i64 x14, .int .i64 x15, .int .i64 x16, .int .i64 x17, .slice x18a x18n x18c])]) (tag K) = K (.agg #[.string x12, .bool x13, .int .i64 x14, .int .i64 x15, .int .i64 x16, .int .i64 x17, .slice x18a x18n x18c]) := px (fun w => by kernel_rfl) K
@[push_cast] theorem bu_38_0_2 (x19 : ByteArray) (x20 x21 x22 x23 : Int) (x24a : Option Addr) (x24n x24c : Nat) : PureX Tryd.prog (Instr.build 38 #[(0, .string x19), (2, .agg #[.int .i64 x20, .int .i64 x21, .int .i64 x22, .int .i64 x23, .slice x24a x24n x24c])]) (tag K) = K (.agg #[.string x19, .bool false, .int .i64 x20, .int .i64 x21, .int .i64 x22, .int .i64 x23, .slice x24a x24n x24c]) := px (fun w => by kernel_rfl) K
@[push_cast] theorem bu_38_2 (x25 x26 x27 x28 : Int) (x29a : Option Addr) (x29n x29c : Nat) : PureX Tryd.prog (Instr.build 38 #[(2, .agg #[.int .i64 x25, .int .i64 x26, .int .i64 x27, .int .i64 x28, .slice x29a x29n x29c])]) (tag K) = K (.agg #[.string ⟨#[]⟩, .bool false, .int .i64 x25, .int .i64 x26, .int .i64 x27, .int .i64 x28, .slice x29a x29n x29c]) := px (fun w => by kernel_rfl) K
@[push_cast] theorem bu_41_0_1_2_3 (x30a x37a x38a : Option Addr) (x30n x30c x37n x37c x38n x38c : Nat) (x31 : ByteArray) (x32 x39 : Bool) (x33 x34 x35 x36 : Int) : PureX Tryd.prog (Instr.build 41 #[(0, .slice x30a x30n x30c), (1, .agg #[.string x31, .bool x32, .int .i64 x33, .int .i64 x34, .int .i64 x35, .int .i64 x36, .slice x37a x37n x37c]), (2, .slice x38a x38n x38c), (3, .bool x39)]) (tag K) = K (.agg #[.slice x30a x30n x30c, .string x31, .bool x32, .int .i64 x33, .int .i64 x34, .int .i64 x35, .int .i64 x36, .slice x37a x37n x37c, .slice x38a x38n x38c, .bool x39]) := px (fun w => by kernel_rfl) K
@[push_cast] theorem bu_62_  : PureX Tryd.prog (Instr.build 62 #[]) (tag K) = K (.agg #[.int .i64 0, .slice none 0 0, .int .i64 0]) := px (fun w => by kernel_rfl) K
@[push_cast] theorem bu_62_0_1 (x40 : Int) (x41a : Option Addr) (x41n x41c : Nat) : PureX Tryd.prog (Instr.build 62 #[(0, .int .i64 x40), (1, .slice x41a x41n x41c)]) (tag K) = K (.agg #[.int .i64 x40, .slice x41a x41n x41c, .int .i64 0]) := px (fun w => by kernel_rfl) K
@[push_cast] theorem bu_62_0_2 (x42 x43 : Int) : PureX Tryd.prog (Instr.build 62 #[(0, .int .i64 x42), (2, .int .i64 x43)]) (tag K) = K (.agg #[.int .i64 x42, .slice none 0 0, .int .i64 x43]) := px (fun w => by kernel_rfl) K
@[push_cast] theorem bu_74_0_1_2_3 (x44a x45a x52a : Option Addr) (x44n x44c x45n x45c x52n x52c : Nat) (x46 : ByteArray) (x47 x53 : Bool) (x48 x49 x50 x51 : Int) : PureX Tryd.prog (Instr.build 74 #[(0, .slice x44a x44n x44c), (1, .slice x45a x45n x45c), (2, .agg #[.string x46, .bool x47, .int .i64 x48, .int .i64 x49, .int .i64 x50, .int .i64 x51, .slice x52a x52n x52c]), (3, .bool x53)]) (tag K) = K (.agg #[.slice x44a x44n x44c, .slice x45a x45n x45c, .string x46, .bool x47, .int .i64 x48, .int .i64 x49, .int .i64 x50, .int .i64 x51, .slice x52a x52n x52c, .bool x53]) := px (fun w => by kernel_rfl) K
@[push_cast] theorem bu_83_0_1_2_3 (x54 : ByteArray) (x55 x56 : Int) (x57 : Bool) : PureX Tryd.prog (Instr.build 83 #[(0, .string x54), (1, .int .i64 x55), (2, .int .i64 x56), (3, .bool x57)]) (tag K) = K (.agg #[.string x54, .int .i64 x55, .int .i64 x56, .bool x57]) := px (fun w => by kernel_rfl) K
@[push_cast] theorem fi_62_0 (x58 x60 : Int) (x59a : Option Addr) (x59n x59c : Nat) : PureX Tryd.prog (Instr.field 62 (.agg #[.int .i64 x58, .slice x59a x59n x59c, .int .i64 x60]) 0) (tag K) = K (.int .i64 x58) := px (fun w => by kernel_rfl) K
@[push_cast] theorem mi_9 (x : Value) : PureX Tryd.prog (Instr.makeInterface 9 x) (tag K) = K (.iface 9 x) := px (fun w => by kernel_rfl) K
@[push_cast] theorem cv_2_107 (n : Int) : PureX Tryd.prog (convert 2 107 (.int .i64 n)) (tag K) = K (.int .u64 (IntKind.u64.wrap n)) := px (fun w => by kernel_rfl) K
@[push_cast] theorem cv_3_5 (n : Int) : PureX Tryd.prog (convert 3 5 (.int .i64 n)) (tag K) = K (.int .u8 (IntKind.u8.wrap n)) := px (fun w => by kernel_rfl) K
@[push_cast] theorem cv_3_103 (n : Int) : PureX Tryd.prog (convert 3 103 (.int .i64 n)) (tag K) = K (.int .u64 (IntKind.u64.wrap n)) := px (fun w => by kernel_rfl) K
@[push_cast] theorem cv_3_107 (n : Int) : PureX Tryd.prog (convert 3 107 (.int .i64 n)) (tag K) = K (.int .u64 (IntKind.u64.wrap n)) := px (fun w => by kernel_rfl) K
@[push_cast] theorem cv_5_3 (n : Int) : PureX Tryd.prog (convert 5 3 (.int .u8 n)) (tag K) = K (.int .i64 (IntKind.i64.wrap n)) := px (fun w => by kernel_rfl) K
@[push_cast] theorem cv_103_117 (n : Int) : PureX Tryd.prog (convert 103 117 (.int .u64 n)) (tag K) = K (.int .u32 (IntKind.u32.wrap n)) := px (fun w => by kernel_rfl) K
@[push_cast] theorem cv_107_3 (n : Int) : PureX Tryd.prog (convert 107 3 (.int .u64 n)) (tag K) = K (.int .i64 (IntKind.i64.wrap n)) := px (fun w => by kernel_rfl) K
@[push_cast] theorem cv_107_5 (n : Int) : PureX Tryd.prog (convert 107 5 (.int .u64 n)) (tag K) = K (.int .u8 (IntKind.u8.wrap n)) := px (fun w => by kernel_rfl) K
@[push_cast] theorem cv_107_117 (n : Int) : PureX Tryd.prog (convert 107 117 (.int .u64 n)) (tag K) = K (.int .u32 (IntKind.u32.wrap n)) := px (fun w => by kernel_rfl) K
@[push_cast] theorem cv_117_5 (n : Int) : PureX Tryd.prog (convert 117 5 (.int .u32 n)) (tag K) = K (.int .u8 (IntKind.u8.wrap n)) := px (fun w => by kernel_rfl) K
theorem bs_22_1 {y61 : ByteArray} {y62 : Bool} {y63 y64 y65 y66 : Int} {y67a : Option Addr} {y67n y67c : Nat} {wb : World} {L : Own} {K : Value → World → Own → Prop} (h : NewX wb L (.cells #[.string y61, .bool y62, .int .i64 y63, .int .i64 y64, .int .i64 y65, .int .i64 y66, .slice y67a y67n y67c] 38 (0, 0)) (tag fun b L => K (.slice (some ⟨b, 0, none⟩) 1 1) wb L)) : ValX Tryd.prog (Instr.buildSlice 22 1 #[(0, .agg #[.string y61, .bool y62, .int .i64 y63, .int .i64 y64, .int .i64 y65, .int .i64 y66, .slice y67a y67n y67c])]) wb L (tag K) := valX_new (fun w => by kernel_rfl) h
theorem bs_22_2 {y68 y75 : ByteArray} {y69 y76 : Bool} {y70 y71 y72 y73 y77 y78 y79 y80 : Int} {y74a y81a : Option Addr} {y74n y74c y81n y81c : Nat} {wb : World} {L : Own} {K : Value → World → Own → Prop} (h : NewX wb L (.cells #[.string y68, .bool y69, .int .i64 y70, .int .i64 y71, .int .i64 y72, .int .i64 y73, .slice y74a y74n y74c, .string y75, .bool y76, .int .i64 y77, .int .i64 y78, .int .i64 y79, .int .i64 y80, .slice y81a y81n y81c] 38 (0, 0)) (tag fun b L => K (.slice (some ⟨b, 0, none⟩) 2 2) wb L)) : ValX Tryd.prog (Instr.buildSlice 22 2 #[(0, .agg #[.string y68, .bool y69, .int .i64 y70, .int .i64 y71, .int .i64 y72, .int .i64 y73, .slice y74a y74n y74c]), (1, .agg #[.string y75, .bool y76, .int .i64 y77, .int .i64 y78, .int .i64 y79, .int .i64 y80, .slice y81a y81n y81c])]) wb L (tag K) := valX_new (fun w => by kernel_rfl) h
theorem bs_22_3 {y82 y89 y96 : ByteArray} {y83 y90 y97 : Bool} {y84 y85 y86 y87 y91 y92 y93 y94 y98 y99 y100 y101 : Int} {y88a y95a y102a : Option Addr} {y88n y88c y95n y95c y102n y102c : Nat} {wb : World} {L : Own} {K : Value → World → Own → Prop} (h : NewX wb L (.cells #[.string y82, .bool y83, .int .i64 y84, .int .i64 y85, .int .i64 y86, .int .i64 y87, .slice y88a y88n y88c, .string y89, .bool y90, .int .i64 y91, .int .i64 y92, .int .i64 y93, .int .i64 y94, .slice y95a y95n y95c, .string y96, .bool y97, .int .i64 y98, .int .i64 y99, .int .i64 y100, .int .i64 y101, .slice y102a y102n y102c] 38 (0, 0)) (tag fun b L => K (.slice (some ⟨b, 0, none⟩) 3 3) wb L)) : ValX Tryd.prog (Instr.buildSlice 22 3 #[(0, .agg #[.string y82, .bool y83, .int .i64 y84, .int .i64 y85, .int .i64 y86, .int .i64 y87, .slice y88a y88n y88c]), (1, .agg #[.string y89, .bool y90, .int .i64 y91, .int .i64 y92, .int .i64 y93, .int .i64 y94, .slice y95a y95n y95c]), (2, .agg #[.string y96, .bool y97, .int .i64 y98, .int .i64 y99, .int .i64 y100, .int .i64 y101, .slice y102a y102n y102c])]) wb L (tag K) := valX_new (fun w => by kernel_rfl) h
theorem bs_26_1 {y103 : Int} {wb : World} {L : Own} {K : Value → World → Own → Prop} (h : NewX wb L (.cells #[.int .i64 y103] 3 (0, 0)) (tag fun b L => K (.slice (some ⟨b, 0, none⟩) 1 1) wb L)) : ValX Tryd.prog (Instr.buildSlice 26 1 #[(0, .int .i64 y103)]) wb L (tag K) := valX_new (fun w => by kernel_rfl) h
theorem bs_26_2 {y104 y105 : Int} {wb : World} {L : Own} {K : Value → World → Own → Prop} (h : NewX wb L (.cells #[.int .i64 y104, .int .i64 y105] 3 (0, 0)) (tag fun b L => K (.slice (some ⟨b, 0, none⟩) 2 2) wb L)) : ValX Tryd.prog (Instr.buildSlice 26 2 #[(0, .int .i64 y104), (1, .int .i64 y105)]) wb L (tag K) := valX_new (fun w => by kernel_rfl) h
theorem bs_26_3 {y106 y107 y108 : Int} {wb : World} {L : Own} {K : Value → World → Own → Prop} (h : NewX wb L (.cells #[.int .i64 y106, .int .i64 y107, .int .i64 y108] 3 (0, 0)) (tag fun b L => K (.slice (some ⟨b, 0, none⟩) 3 3) wb L)) : ValX Tryd.prog (Instr.buildSlice 26 3 #[(0, .int .i64 y106), (1, .int .i64 y107), (2, .int .i64 y108)]) wb L (tag K) := valX_new (fun w => by kernel_rfl) h
theorem bs_28_1 {y109a y116a y117a : Option Addr} {y109n y109c y116n y116c y117n y117c : Nat} {y110 : ByteArray} {y111 y118 : Bool} {y112 y113 y114 y115 : Int} {wb : World} {L : Own} {K : Value → World → Own → Prop} (h : NewX wb L (.cells #[.slice y109a y109n y109c, .string y110, .bool y111, .int .i64 y112, .int .i64 y113, .int .i64 y114, .int .i64 y115, .slice y116a y116n y116c, .slice y117a y117n y117c, .bool y118] 41 (0, 0)) (tag fun b L => K (.slice (some ⟨b, 0, none⟩) 1 1) wb L)) : ValX Tryd.prog (Instr.buildSlice 28 1 #[(0, .agg #[.slice y109a y109n y109c, .string y110, .bool y111, .int .i64 y112, .int .i64 y113, .int .i64 y114, .int .i64 y115, .slice y116a y116n y116c, .slice y117a y117n y117c, .bool y118])]) wb L (tag K) := valX_new (fun w => by kernel_rfl) h
theorem bs_28_2 {y119a y126a y127a y129a y136a y137a : Option Addr} {y119n y119c y126n y126c y127n y127c y129n y129c y136n y136c y137n y137c : Nat} {y120 y130 : ByteArray} {y121 y128 y131 y138 : Bool} {y122 y123 y124 y125 y132 y133 y134 y135 : Int} {wb : World} {L : Own} {K : Value → World → Own → Prop} (h : NewX wb L (.cells #[.slice y119a y119n y119c, .string y120, .bool y121, .int .i64 y122, .int .i64 y123, .int .i64 y124, .int .i64 y125, .slice y126a y126n y126c, .slice y127a y127n y127c, .bool y128, .slice y129a y129n y129c, .string y130, .bool y131, .int .i64 y132, .int .i64 y133, .int .i64 y134, .int .i64 y135, .slice y136a y136n y136c, .slice y137a y137n y137c, .bool y138] 41 (0, 0)) (tag fun b L => K (.slice (some ⟨b, 0, none⟩) 2 2) wb L)) : ValX Tryd.prog (Instr.buildSlice 28 2 #[(0, .agg #[.slice y119a y119n y119c, .string y120, .bool y121, .int .i64 y122, .int .i64 y123, .int .i64 y124, .int .i64 y125, .slice y126a y126n y126c, .slice y127a y127n y127c, .bool y128]), (1, .agg #[.slice y129a y129n y129c, .string y130, .bool y131, .int .i64 y132, .int .i64 y133, .int .i64 y134, .int .i64 y135, .slice y136a y136n y136c, .slice y137a y137n y137c, .bool y138])]) wb L (tag K) := valX_new (fun w => by kernel_rfl) h
theorem bs_28_3 {y139a y146a y147a y149a y156a y157a y159a y166a y167a : Option Addr} {y139n y139c y146n y146c y147n y147c y149n y149c y156n y156c y157n y157c y159n y159c y166n y166c y167n y167c : Nat} {y140 y150 y160 : ByteArray} {y141 y148 y151 y158 y161 y168 : Bool} {y142 y143 y144 y145 y152 y153 y154 y155 y162 y163 y164 y165 : Int} {wb : World} {L : Own} {K : Value → World → Own → Prop} (h : NewX wb L (.cells #[.slice y139a y139n y139c, .string y140, .bool y141, .int .i64 y142, .int .i64 y143, .int .i64 y144, .int .i64 y145, .slice y146a y146n y146c, .slice y147a y147n y147c, .bool y148, .slice y149a y149n y149c, .string y150, .bool y151, .int .i64 y152, .int .i64 y153, .int .i64 y154, .int .i64 y155, .slice y156a y156n y156c, .slice y157a y157n y157c, .bool y158, .slice y159a y159n y159c, .string y160, .bool y161, .int .i64 y162, .int .i64 y163, .int .i64 y164, .int .i64 y165, .slice y166a y166n y166c, .slice y167a y167n y167c, .bool y168] 41 (0, 0)) (tag fun b L => K (.slice (some ⟨b, 0, none⟩) 3 3) wb L)) : ValX Tryd.prog (Instr.buildSlice 28 3 #[(0, .agg #[.slice y139a y139n y139c, .string y140, .bool y141, .int .i64 y142, .int .i64 y143, .int .i64 y144, .int .i64 y145, .slice y146a y146n y146c, .slice y147a y147n y147c, .bool y148]), (1, .agg #[.slice y149a y149n y149c, .string y150, .bool y151, .int .i64 y152, .int .i64 y153, .int .i64 y154, .int .i64 y155, .slice y156a y156n y156c, .slice y157a y157n y157c, .bool y158]), (2, .agg #[.slice y159a y159n y159c, .string y160, .bool y161, .int .i64 y162, .int .i64 y163, .int .i64 y164, .int .i64 y165, .slice y166a y166n y166c, .slice y167a y167n y167c, .bool y168])]) wb L (tag K) := valX_new (fun w => by kernel_rfl) h
theorem bs_45_1 {y169a : Option Addr} {y169n y169c : Nat} {wb : World} {L : Own} {K : Value → World → Own → Prop} (h : NewX wb L (.cells #[.slice y169a y169n y169c] 26 (0, 0)) (tag fun b L => K (.slice (some ⟨b, 0, none⟩) 1 1) wb L)) : ValX Tryd.prog (Instr.buildSlice 45 1 #[(0, .slice y169a y169n y169c)]) wb L (tag K) := valX_new (fun w => by kernel_rfl) h
theorem bs_45_2 {y170a y171a : Option Addr} {y170n y170c y171n y171c : Nat} {wb : World} {L : Own} {K : Value → World → Own → Prop} (h : NewX wb L (.cells #[.slice y170a y170n y170c, .slice y171a y171n y171c] 26 (0, 0)) (tag fun b L => K (.slice (some ⟨b, 0, none⟩) 2 2) wb L)) : ValX Tryd.prog (Instr.buildSlice 45 2 #[(0, .slice y170a y170n y170c), (1, .slice y171a y171n y171c)]) wb L (tag K) := valX_new (fun w => by kernel_rfl) h
theorem bs_45_3 {y172a y173a y174a : Option Addr} {y172n y172c y173n y173c y174n y174c : Nat} {wb : World} {L : Own} {K : Value → World → Own → Prop} (h : NewX wb L (.cells #[.slice y172a y172n y172c, .slice y173a y173n y173c, .slice y174a y174n y174c] 26 (0, 0)) (tag fun b L => K (.slice (some ⟨b, 0, none⟩) 3 3) wb L)) : ValX Tryd.prog (Instr.buildSlice 45 3 #[(0, .slice y172a y172n y172c), (1, .slice y173a y173n y173c), (2, .slice y174a y174n y174c)]) wb L (tag K) := valX_new (fun w => by kernel_rfl) h
theorem bs_76_1 {y175 : Int} {wb : World} {L : Own} {K : Value → World → Own → Prop} (h : NewX wb L (.cells #[.int .u8 y175] 5 (0, 0)) (tag fun b L => K (.slice (some ⟨b, 0, none⟩) 1 1) wb L)) : ValX Tryd.prog (Instr.buildSlice 76 1 #[(0, .int .u8 y175)]) wb L (tag K) := valX_new (fun w => by kernel_rfl) h
theorem bs_76_2 {y176 y177 : Int} {wb : World} {L : Own} {K : Value → World → Own → Prop} (h : NewX wb L (.cells #[.int .u8 y176, .int .u8 y177] 5 (0, 0)) (tag fun b L => K (.slice (some ⟨b, 0, none⟩) 2 2) wb L)) : ValX Tryd.prog (Instr.buildSlice 76 2 #[(0, .int .u8 y176), (1, .int .u8 y177)]) wb L (tag K) := valX_new (fun w => by kernel_rfl) h
theorem bs_76_3 {y178 y179 y180 : Int} {wb : World} {L : Own} {K : Value → World → Own → Prop} (h : NewX wb L (.cells #[.int .u8 y178, .int .u8 y179, .int .u8 y180] 5 (0, 0)) (tag fun b L => K (.slice (some ⟨b, 0, none⟩) 3 3) wb L)) : ValX Tryd.prog (Instr.buildSlice 76 3 #[(0, .int .u8 y178), (1, .int .u8 y179), (2, .int .u8 y180)]) wb L (tag K) := valX_new (fun w => by kernel_rfl) h
theorem en_7 : entersB Tryd.prog 7 = true := entersB_of Tryd.func7 (by kernel_rfl)
theorem en_8 : entersB Tryd.prog 8 = true := entersB_of Tryd.func8 (by kernel_rfl)
theorem en_9 : entersB Tryd.prog 9 = true := entersB_of Tryd.func9 (by kernel_rfl)
theorem en_10 : entersB Tryd.prog 10 = true := entersB_of Tryd.func10 (by kernel_rfl)
theorem en_11 : entersB Tryd.prog 11 = true := entersB_of Tryd.func11 (by kernel_rfl)
theorem en_12 : entersB Tryd.prog 12 = true := entersB_of Tryd.func12 (by kernel_rfl)
theorem en_13 : entersB Tryd.prog 13 = true := entersB_of Tryd.func13 (by kernel_rfl)
theorem en_14 : entersB Tryd.prog 14 = true := entersB_of Tryd.func14 (by kernel_rfl)
theorem en_15 : entersB Tryd.prog 15 = true := entersB_of Tryd.func15 (by kernel_rfl)
theorem en_16 : entersB Tryd.prog 16 = true := entersB_of Tryd.func16 (by kernel_rfl)
theorem en_17 : entersB Tryd.prog 17 = true := entersB_of Tryd.func17 (by kernel_rfl)
theorem en_18 : entersB Tryd.prog 18 = true := entersB_of Tryd.func18 (by kernel_rfl)
theorem en_19 : entersB Tryd.prog 19 = true := entersB_of Tryd.func19 (by kernel_rfl)
theorem en_20 : entersB Tryd.prog 20 = true := entersB_of Tryd.func20 (by kernel_rfl)
theorem en_21 : entersB Tryd.prog 21 = true := entersB_of Tryd.func21 (by kernel_rfl)
theorem en_22 : entersB Tryd.prog 22 = true := entersB_of Tryd.func22 (by kernel_rfl)
theorem en_23 : entersB Tryd.prog 23 = true := entersB_of Tryd.func23 (by kernel_rfl)
theorem en_24 : entersB Tryd.prog 24 = true := entersB_of Tryd.func24 (by kernel_rfl)
theorem en_25 : entersB Tryd.prog 25 = true := entersB_of Tryd.func25 (by kernel_rfl)
theorem en_26 : entersB Tryd.prog 26 = true := entersB_of Tryd.func26 (by kernel_rfl)
theorem en_27 : entersB Tryd.prog 27 = true := entersB_of Tryd.func27 (by kernel_rfl)
theorem en_28 : entersB Tryd.prog 28 = true := entersB_of Tryd.func28 (by kernel_rfl)
theorem en_29 : entersB Tryd.prog 29 = true := entersB_of Tryd.func29 (by kernel_rfl)
theorem en_30 : entersB Tryd.prog 30 = true := entersB_of Tryd.func30 (by kernel_rfl)
theorem en_31 : entersB Tryd.prog 31 = true := entersB_of Tryd.func31 (by kernel_rfl)
theorem en_32 : entersB Tryd.prog 32 = true := entersB_of Tryd.func32 (by kernel_rfl)
theorem en_33 : entersB Tryd.prog 33 = true := entersB_of Tryd.func33 (by kernel_rfl)
theorem en_34 : entersB Tryd.prog 34 = true := entersB_of Tryd.func34 (by kernel_rfl)
theorem en_35 : entersB Tryd.prog 35 = true := entersB_of Tryd.func35 (by kernel_rfl)
theorem en_36 : entersB Tryd.prog 36 = true := entersB_of Tryd.func36 (by kernel_rfl)
theorem en_37 : entersB Tryd.prog 37 = true := entersB_of Tryd.func37 (by kernel_rfl)
theorem en_38 : entersB Tryd.prog 38 = true := entersB_of Tryd.func38 (by kernel_rfl)
theorem en_39 : entersB Tryd.prog 39 = true := entersB_of Tryd.func39 (by kernel_rfl)
theorem en_40 : entersB Tryd.prog 40 = true := entersB_of Tryd.func40 (by kernel_rfl)
theorem en_41 : entersB Tryd.prog 41 = true := entersB_of Tryd.func41 (by kernel_rfl)
theorem en_42 : entersB Tryd.prog 42 = true := entersB_of Tryd.func42 (by kernel_rfl)
theorem en_43 : entersB Tryd.prog 43 = true := entersB_of Tryd.func43 (by kernel_rfl)
theorem en_44 : entersB Tryd.prog 44 = true := entersB_of Tryd.func44 (by kernel_rfl)
theorem en_45 : entersB Tryd.prog 45 = true := entersB_of Tryd.func45 (by kernel_rfl)
theorem en_46 : entersB Tryd.prog 46 = true := entersB_of Tryd.func46 (by kernel_rfl)
theorem en_47 : entersB Tryd.prog 47 = true := entersB_of Tryd.func47 (by kernel_rfl)
theorem en_48 : entersB Tryd.prog 48 = true := entersB_of Tryd.func48 (by kernel_rfl)
theorem en_49 : entersB Tryd.prog 49 = true := entersB_of Tryd.func49 (by kernel_rfl)
theorem en_50 : entersB Tryd.prog 50 = true := entersB_of Tryd.func50 (by kernel_rfl)
theorem en_51 : entersB Tryd.prog 51 = true := entersB_of Tryd.func51 (by kernel_rfl)
theorem en_52 : entersB Tryd.prog 52 = true := entersB_of Tryd.func52 (by kernel_rfl)
theorem en_53 : entersB Tryd.prog 53 = true := entersB_of Tryd.func53 (by kernel_rfl)
theorem en_54 : entersB Tryd.prog 54 = true := entersB_of Tryd.func54 (by kernel_rfl)
theorem en_55 : entersB Tryd.prog 55 = true := entersB_of Tryd.func55 (by kernel_rfl)
theorem en_56 : entersB Tryd.prog 56 = true := entersB_of Tryd.func56 (by kernel_rfl)
theorem en_57 : entersB Tryd.prog 57 = true := entersB_of Tryd.func57 (by kernel_rfl)
theorem en_58 : entersB Tryd.prog 58 = true := entersB_of Tryd.func58 (by kernel_rfl)
theorem en_59 : entersB Tryd.prog 59 = true := entersB_of Tryd.func59 (by kernel_rfl)
theorem en_60 : entersB Tryd.prog 60 = true := entersB_of Tryd.func60 (by kernel_rfl)
theorem en_61 : entersB Tryd.prog 61 = true := entersB_of Tryd.func61 (by kernel_rfl)
theorem en_62 : entersB Tryd.prog 62 = true := entersB_of Tryd.func62 (by kernel_rfl)
theorem en_63 : entersB Tryd.prog 63 = true := entersB_of Tryd.func63 (by kernel_rfl)
theorem en_64 : entersB Tryd.prog 64 = true := entersB_of Tryd.func64 (by kernel_rfl)
theorem en_66 : entersB Tryd.prog 66 = true := entersB_of Tryd.func66 (by kernel_rfl)
theorem en_67 : entersB Tryd.prog 67 = true := entersB_of Tryd.func67 (by kernel_rfl)
theorem en_68 : entersB Tryd.prog 68 = true := entersB_of Tryd.func68 (by kernel_rfl)
theorem en_69 : entersB Tryd.prog 69 = true := entersB_of Tryd.func69 (by kernel_rfl)
theorem en_70 : entersB Tryd.prog 70 = true := entersB_of Tryd.func70 (by kernel_rfl)
theorem en_71 : entersB Tryd.prog 71 = true := entersB_of Tryd.func71 (by kernel_rfl)
theorem en_72 : entersB Tryd.prog 72 = true := entersB_of Tryd.func72 (by kernel_rfl)
theorem en_73 : entersB Tryd.prog 73 = true := entersB_of Tryd.func73 (by kernel_rfl)
theorem en_74 : entersB Tryd.prog 74 = true := entersB_of Tryd.func74 (by kernel_rfl)
theorem en_75 : entersB Tryd.prog 75 = true := entersB_of Tryd.func75 (by kernel_rfl)
theorem en_76 : entersB Tryd.prog 76 = true := entersB_of Tryd.func76 (by kernel_rfl)
theorem en_77 : entersB Tryd.prog 77 = true := entersB_of Tryd.func77 (by kernel_rfl)
theorem en_78 : entersB Tryd.prog 78 = true := entersB_of Tryd.func78 (by kernel_rfl)
theorem en_79 : entersB Tryd.prog 79 = true := entersB_of Tryd.func79 (by kernel_rfl)
theorem en_80 : entersB Tryd.prog 80 = true := entersB_of Tryd.func80 (by kernel_rfl)
theorem en_81 : entersB Tryd.prog 81 = true := entersB_of Tryd.func81 (by kernel_rfl)
theorem en_82 : entersB Tryd.prog 82 = true := entersB_of Tryd.func82 (by kernel_rfl)
theorem en_83 : entersB Tryd.prog 83 = true := entersB_of Tryd.func83 (by kernel_rfl)
theorem en_84 : entersB Tryd.prog 84 = true := entersB_of Tryd.func84 (by kernel_rfl)
theorem en_85 : entersB Tryd.prog 85 = true := entersB_of Tryd.func85 (by kernel_rfl)
theorem en_86 : entersB Tryd.prog 86 = true := entersB_of Tryd.func86 (by kernel_rfl)
theorem en_87 : entersB Tryd.prog 87 = true := entersB_of Tryd.func87 (by kernel_rfl)
theorem en_88 : entersB Tryd.prog 88 = true := entersB_of Tryd.func88 (by kernel_rfl)
theorem en_89 : entersB Tryd.prog 89 = true := entersB_of Tryd.func89 (by kernel_rfl)
theorem en_90 : entersB Tryd.prog 90 = true := entersB_of Tryd.func90 (by kernel_rfl)
theorem en_91 : entersB Tryd.prog 91 = true := entersB_of Tryd.func91 (by kernel_rfl)
theorem en_92 : entersB Tryd.prog 92 = true := entersB_of Tryd.func92 (by kernel_rfl)
theorem en_93 : entersB Tryd.prog 93 = true := entersB_of Tryd.func93 (by kernel_rfl)
end Go.Proofs.YtgbafmjgfbgeoaaDoor
