/- Facts on the program of seat YthdejilihaombaaDoor, for the walks: written by program (genfacts.py) off the translation's type table. -/
import Derived.Test.YthdejilihaombaaDoorProg
import Derived.Test.YthdejilihaombaaDoorKg
import Derived.KernelRfl

namespace Go.Proofs.YthdejilihaombaaDoor
open Go Go.K
variable {K : Value → Prop}
theorem mixed : Tryd.prog.follows .mixedOrders = true := by kernel_rfl
@[push_cast] theorem fa_24_0 (b o : Nat) : PureX Tryd.prog (Instr.fieldAt 24 (.pointer (some ⟨b, o, none⟩)) 0) (tag K) = K (.pointer (some ⟨b, o, none⟩)) := px (fun w => by kernel_rfl) K
@[push_cast] theorem fa_24_1 (b o : Nat) : PureX Tryd.prog (Instr.fieldAt 24 (.pointer (some ⟨b, o, none⟩)) 1) (tag K) = K (.pointer (some ⟨b, o + 1, none⟩)) := px (fun w => by kernel_rfl) K
@[push_cast] theorem fa_24_2 (b o : Nat) : PureX Tryd.prog (Instr.fieldAt 24 (.pointer (some ⟨b, o, none⟩)) 2) (tag K) = K (.pointer (some ⟨b, o + 2, none⟩)) := px (fun w => by kernel_rfl) K
@[push_cast] theorem fa_24_3 (b o : Nat) : PureX Tryd.prog (Instr.fieldAt 24 (.pointer (some ⟨b, o, none⟩)) 3) (tag K) = K (.pointer (some ⟨b, o + 3, none⟩)) := px (fun w => by kernel_rfl) K
@[push_cast] theorem fa_24_4 (b o : Nat) : PureX Tryd.prog (Instr.fieldAt 24 (.pointer (some ⟨b, o, none⟩)) 4) (tag K) = K (.pointer (some ⟨b, o + 4, none⟩)) := px (fun w => by kernel_rfl) K
@[push_cast] theorem fa_26_0 (b o : Nat) : PureX Tryd.prog (Instr.fieldAt 26 (.pointer (some ⟨b, o, none⟩)) 0) (tag K) = K (.pointer (some ⟨b, o, none⟩)) := px (fun w => by kernel_rfl) K
@[push_cast] theorem fa_26_1 (b o : Nat) : PureX Tryd.prog (Instr.fieldAt 26 (.pointer (some ⟨b, o, none⟩)) 1) (tag K) = K (.pointer (some ⟨b, o + 1, none⟩)) := px (fun w => by kernel_rfl) K
@[push_cast] theorem fa_26_2 (b o : Nat) : PureX Tryd.prog (Instr.fieldAt 26 (.pointer (some ⟨b, o, none⟩)) 2) (tag K) = K (.pointer (some ⟨b, o + 2, none⟩)) := px (fun w => by kernel_rfl) K
@[push_cast] theorem fa_29_0 (b o : Nat) : PureX Tryd.prog (Instr.fieldAt 29 (.pointer (some ⟨b, o, none⟩)) 0) (tag K) = K (.pointer (some ⟨b, o, none⟩)) := px (fun w => by kernel_rfl) K
@[push_cast] theorem fa_29_1 (b o : Nat) : PureX Tryd.prog (Instr.fieldAt 29 (.pointer (some ⟨b, o, none⟩)) 1) (tag K) = K (.pointer (some ⟨b, o + 1, none⟩)) := px (fun w => by kernel_rfl) K
@[push_cast] theorem fa_29_2 (b o : Nat) : PureX Tryd.prog (Instr.fieldAt 29 (.pointer (some ⟨b, o, none⟩)) 2) (tag K) = K (.pointer (some ⟨b, o + 2, none⟩)) := px (fun w => by kernel_rfl) K
@[push_cast] theorem fa_29_3 (b o : Nat) : PureX Tryd.prog (Instr.fieldAt 29 (.pointer (some ⟨b, o, none⟩)) 3) (tag K) = K (.pointer (some ⟨b, o + 3, none⟩)) := px (fun w => by kernel_rfl) K
@[push_cast] theorem fa_46_0 (b o : Nat) : PureX Tryd.prog (Instr.fieldAt 46 (.pointer (some ⟨b, o, none⟩)) 0) (tag K) = K (.pointer (some ⟨b, o, none⟩)) := px (fun w => by kernel_rfl) K
@[push_cast] theorem fa_46_1 (b o : Nat) : PureX Tryd.prog (Instr.fieldAt 46 (.pointer (some ⟨b, o, none⟩)) 1) (tag K) = K (.pointer (some ⟨b, o + 1, none⟩)) := px (fun w => by kernel_rfl) K
@[push_cast] theorem fa_50_0 (b o : Nat) : PureX Tryd.prog (Instr.fieldAt 50 (.pointer (some ⟨b, o, none⟩)) 0) (tag K) = K (.pointer (some ⟨b, o, none⟩)) := px (fun w => by kernel_rfl) K
@[push_cast] theorem fa_50_1 (b o : Nat) : PureX Tryd.prog (Instr.fieldAt 50 (.pointer (some ⟨b, o, none⟩)) 1) (tag K) = K (.pointer (some ⟨b, o + 1, none⟩)) := px (fun w => by kernel_rfl) K
@[push_cast] theorem fa_50_2 (b o : Nat) : PureX Tryd.prog (Instr.fieldAt 50 (.pointer (some ⟨b, o, none⟩)) 2) (tag K) = K (.pointer (some ⟨b, o + 2, none⟩)) := px (fun w => by kernel_rfl) K
@[push_cast] theorem fa_80_0 (b o : Nat) : PureX Tryd.prog (Instr.fieldAt 80 (.pointer (some ⟨b, o, none⟩)) 0) (tag K) = K (.pointer (some ⟨b, o, none⟩)) := px (fun w => by kernel_rfl) K
@[push_cast] theorem fa_80_1 (b o : Nat) : PureX Tryd.prog (Instr.fieldAt 80 (.pointer (some ⟨b, o, none⟩)) 1) (tag K) = K (.pointer (some ⟨b, o + 1, none⟩)) := px (fun w => by kernel_rfl) K
@[push_cast] theorem fa_86_0 (b o : Nat) : PureX Tryd.prog (Instr.fieldAt 86 (.pointer (some ⟨b, o, none⟩)) 0) (tag K) = K (.pointer (some ⟨b, o, none⟩)) := px (fun w => by kernel_rfl) K
@[push_cast] theorem fa_86_1 (b o : Nat) : PureX Tryd.prog (Instr.fieldAt 86 (.pointer (some ⟨b, o, none⟩)) 1) (tag K) = K (.pointer (some ⟨b, o + 1, none⟩)) := px (fun w => by kernel_rfl) K
@[push_cast] theorem fa_86_2 (b o : Nat) : PureX Tryd.prog (Instr.fieldAt 86 (.pointer (some ⟨b, o, none⟩)) 2) (tag K) = K (.pointer (some ⟨b, o + 2, none⟩)) := px (fun w => by kernel_rfl) K
@[push_cast] theorem fa_86_3 (b o : Nat) : PureX Tryd.prog (Instr.fieldAt 86 (.pointer (some ⟨b, o, none⟩)) 3) (tag K) = K (.pointer (some ⟨b, o + 9, none⟩)) := px (fun w => by kernel_rfl) K
@[push_cast] theorem fa_92_0 (b o : Nat) : PureX Tryd.prog (Instr.fieldAt 92 (.pointer (some ⟨b, o, none⟩)) 0) (tag K) = K (.pointer (some ⟨b, o, none⟩)) := px (fun w => by kernel_rfl) K
@[push_cast] theorem fa_92_1 (b o : Nat) : PureX Tryd.prog (Instr.fieldAt 92 (.pointer (some ⟨b, o, none⟩)) 1) (tag K) = K (.pointer (some ⟨b, o + 1, none⟩)) := px (fun w => by kernel_rfl) K
@[push_cast] theorem fa_92_2 (b o : Nat) : PureX Tryd.prog (Instr.fieldAt 92 (.pointer (some ⟨b, o, none⟩)) 2) (tag K) = K (.pointer (some ⟨b, o + 8, none⟩)) := px (fun w => by kernel_rfl) K
@[push_cast] theorem fa_92_3 (b o : Nat) : PureX Tryd.prog (Instr.fieldAt 92 (.pointer (some ⟨b, o, none⟩)) 3) (tag K) = K (.pointer (some ⟨b, o + 9, none⟩)) := px (fun w => by kernel_rfl) K
@[push_cast] theorem fa_105_0 (b o : Nat) : PureX Tryd.prog (Instr.fieldAt 105 (.pointer (some ⟨b, o, none⟩)) 0) (tag K) = K (.pointer (some ⟨b, o, none⟩)) := px (fun w => by kernel_rfl) K
@[push_cast] theorem fa_136_0 (b o : Nat) : PureX Tryd.prog (Instr.fieldAt 136 (.pointer (some ⟨b, o, none⟩)) 0) (tag K) = K (.pointer (some ⟨b, o, none⟩)) := px (fun w => by kernel_rfl) K
@[push_cast] theorem fa_136_3 (b o : Nat) : PureX Tryd.prog (Instr.fieldAt 136 (.pointer (some ⟨b, o, none⟩)) 3) (tag K) = K (.pointer (some ⟨b, o + 3, none⟩)) := px (fun w => by kernel_rfl) K
@[push_cast] theorem fa_143_0 (b o : Nat) : PureX Tryd.prog (Instr.fieldAt 143 (.pointer (some ⟨b, o, none⟩)) 0) (tag K) = K (.pointer (some ⟨b, o, none⟩)) := px (fun w => by kernel_rfl) K
@[push_cast] theorem fa_143_1 (b o : Nat) : PureX Tryd.prog (Instr.fieldAt 143 (.pointer (some ⟨b, o, none⟩)) 1) (tag K) = K (.pointer (some ⟨b, o + 1, none⟩)) := px (fun w => by kernel_rfl) K
@[push_cast] theorem sh_2 : shapeOf Tryd.prog 2 = some (false, 1) := by kernel_rfl
@[push_cast] theorem sz_2 : (Tryd.prog.info? 2).map (·.size) = some 1 := by kernel_rfl
instance : Shp Tryd.prog 2 false 1 := ⟨sh_2⟩
instance : Siz Tryd.prog 2 1 := ⟨sz_2⟩
@[push_cast] theorem sh_3 : shapeOf Tryd.prog 3 = some (false, 1) := by kernel_rfl
@[push_cast] theorem sz_3 : (Tryd.prog.info? 3).map (·.size) = some 1 := by kernel_rfl
instance : Shp Tryd.prog 3 false 1 := ⟨sh_3⟩
instance : Siz Tryd.prog 3 1 := ⟨sz_3⟩
@[push_cast] theorem sh_4 : shapeOf Tryd.prog 4 = some (false, 1) := by kernel_rfl
@[push_cast] theorem sz_4 : (Tryd.prog.info? 4).map (·.size) = some 1 := by kernel_rfl
instance : Shp Tryd.prog 4 false 1 := ⟨sh_4⟩
instance : Siz Tryd.prog 4 1 := ⟨sz_4⟩
@[push_cast] theorem sh_5 : shapeOf Tryd.prog 5 = some (false, 1) := by kernel_rfl
@[push_cast] theorem sz_5 : (Tryd.prog.info? 5).map (·.size) = some 1 := by kernel_rfl
instance : Shp Tryd.prog 5 false 1 := ⟨sh_5⟩
instance : Siz Tryd.prog 5 1 := ⟨sz_5⟩
@[push_cast] theorem sh_9 : shapeOf Tryd.prog 9 = some (false, 1) := by kernel_rfl
@[push_cast] theorem sz_9 : (Tryd.prog.info? 9).map (·.size) = some 1 := by kernel_rfl
instance : Shp Tryd.prog 9 false 1 := ⟨sh_9⟩
instance : Siz Tryd.prog 9 1 := ⟨sz_9⟩
@[push_cast] theorem sh_22 : shapeOf Tryd.prog 22 = some (false, 1) := by kernel_rfl
@[push_cast] theorem sz_22 : (Tryd.prog.info? 22).map (·.size) = some 1 := by kernel_rfl
instance : Shp Tryd.prog 22 false 1 := ⟨sh_22⟩
instance : Siz Tryd.prog 22 1 := ⟨sz_22⟩
@[push_cast] theorem sh_24 : shapeOf Tryd.prog 24 = some (true, 5) := by kernel_rfl
@[push_cast] theorem sz_24 : (Tryd.prog.info? 24).map (·.size) = some 5 := by kernel_rfl
instance : Shp Tryd.prog 24 true 5 := ⟨sh_24⟩
instance : Siz Tryd.prog 24 5 := ⟨sz_24⟩
@[push_cast] theorem sh_26 : shapeOf Tryd.prog 26 = some (true, 7) := by kernel_rfl
@[push_cast] theorem sz_26 : (Tryd.prog.info? 26).map (·.size) = some 7 := by kernel_rfl
instance : Shp Tryd.prog 26 true 7 := ⟨sh_26⟩
instance : Siz Tryd.prog 26 7 := ⟨sz_26⟩
@[push_cast] theorem sh_27 : shapeOf Tryd.prog 27 = some (false, 1) := by kernel_rfl
@[push_cast] theorem sz_27 : (Tryd.prog.info? 27).map (·.size) = some 1 := by kernel_rfl
instance : Shp Tryd.prog 27 false 1 := ⟨sh_27⟩
instance : Siz Tryd.prog 27 1 := ⟨sz_27⟩
@[push_cast] theorem sh_29 : shapeOf Tryd.prog 29 = some (true, 4) := by kernel_rfl
@[push_cast] theorem sz_29 : (Tryd.prog.info? 29).map (·.size) = some 4 := by kernel_rfl
instance : Shp Tryd.prog 29 true 4 := ⟨sh_29⟩
instance : Siz Tryd.prog 29 4 := ⟨sz_29⟩
@[push_cast] theorem sh_30 : shapeOf Tryd.prog 30 = some (false, 1) := by kernel_rfl
@[push_cast] theorem sz_30 : (Tryd.prog.info? 30).map (·.size) = some 1 := by kernel_rfl
instance : Shp Tryd.prog 30 false 1 := ⟨sh_30⟩
instance : Siz Tryd.prog 30 1 := ⟨sz_30⟩
@[push_cast] theorem sh_36 : shapeOf Tryd.prog 36 = some (false, 1) := by kernel_rfl
@[push_cast] theorem sz_36 : (Tryd.prog.info? 36).map (·.size) = some 1 := by kernel_rfl
instance : Shp Tryd.prog 36 false 1 := ⟨sh_36⟩
instance : Siz Tryd.prog 36 1 := ⟨sz_36⟩
@[push_cast] theorem sh_44 : shapeOf Tryd.prog 44 = some (false, 1) := by kernel_rfl
@[push_cast] theorem sz_44 : (Tryd.prog.info? 44).map (·.size) = some 1 := by kernel_rfl
instance : Shp Tryd.prog 44 false 1 := ⟨sh_44⟩
instance : Siz Tryd.prog 44 1 := ⟨sz_44⟩
@[push_cast] theorem sh_46 : shapeOf Tryd.prog 46 = some (true, 2) := by kernel_rfl
@[push_cast] theorem sz_46 : (Tryd.prog.info? 46).map (·.size) = some 2 := by kernel_rfl
instance : Shp Tryd.prog 46 true 2 := ⟨sh_46⟩
instance : Siz Tryd.prog 46 2 := ⟨sz_46⟩
@[push_cast] theorem sh_48 : shapeOf Tryd.prog 48 = some (false, 1) := by kernel_rfl
@[push_cast] theorem sz_48 : (Tryd.prog.info? 48).map (·.size) = some 1 := by kernel_rfl
instance : Shp Tryd.prog 48 false 1 := ⟨sh_48⟩
instance : Siz Tryd.prog 48 1 := ⟨sz_48⟩
@[push_cast] theorem sh_50 : shapeOf Tryd.prog 50 = some (true, 3) := by kernel_rfl
@[push_cast] theorem sz_50 : (Tryd.prog.info? 50).map (·.size) = some 3 := by kernel_rfl
instance : Shp Tryd.prog 50 true 3 := ⟨sh_50⟩
instance : Siz Tryd.prog 50 3 := ⟨sz_50⟩
@[push_cast] theorem sh_73 : shapeOf Tryd.prog 73 = some (false, 1) := by kernel_rfl
@[push_cast] theorem sz_73 : (Tryd.prog.info? 73).map (·.size) = some 1 := by kernel_rfl
instance : Shp Tryd.prog 73 false 1 := ⟨sh_73⟩
instance : Siz Tryd.prog 73 1 := ⟨sz_73⟩
@[push_cast] theorem sh_80 : shapeOf Tryd.prog 80 = some (true, 2) := by kernel_rfl
@[push_cast] theorem sz_80 : (Tryd.prog.info? 80).map (·.size) = some 2 := by kernel_rfl
instance : Shp Tryd.prog 80 true 2 := ⟨sh_80⟩
instance : Siz Tryd.prog 80 2 := ⟨sz_80⟩
@[push_cast] theorem sh_81 : shapeOf Tryd.prog 81 = some (false, 1) := by kernel_rfl
@[push_cast] theorem sz_81 : (Tryd.prog.info? 81).map (·.size) = some 1 := by kernel_rfl
instance : Shp Tryd.prog 81 false 1 := ⟨sh_81⟩
instance : Siz Tryd.prog 81 1 := ⟨sz_81⟩
@[push_cast] theorem sh_86 : shapeOf Tryd.prog 86 = some (true, 10) := by kernel_rfl
@[push_cast] theorem sz_86 : (Tryd.prog.info? 86).map (·.size) = some 10 := by kernel_rfl
instance : Shp Tryd.prog 86 true 10 := ⟨sh_86⟩
instance : Siz Tryd.prog 86 10 := ⟨sz_86⟩
@[push_cast] theorem sh_92 : shapeOf Tryd.prog 92 = some (true, 10) := by kernel_rfl
@[push_cast] theorem sz_92 : (Tryd.prog.info? 92).map (·.size) = some 10 := by kernel_rfl
instance : Shp Tryd.prog 92 true 10 := ⟨sh_92⟩
instance : Siz Tryd.prog 92 10 := ⟨sz_92⟩
@[push_cast] theorem sh_105 : shapeOf Tryd.prog 105 = some (true, 1) := by kernel_rfl
@[push_cast] theorem sz_105 : (Tryd.prog.info? 105).map (·.size) = some 1 := by kernel_rfl
instance : Shp Tryd.prog 105 true 1 := ⟨sh_105⟩
instance : Siz Tryd.prog 105 1 := ⟨sz_105⟩
@[push_cast] theorem sh_118 : shapeOf Tryd.prog 118 = some (false, 1) := by kernel_rfl
@[push_cast] theorem sz_118 : (Tryd.prog.info? 118).map (·.size) = some 1 := by kernel_rfl
instance : Shp Tryd.prog 118 false 1 := ⟨sh_118⟩
instance : Siz Tryd.prog 118 1 := ⟨sz_118⟩
@[push_cast] theorem sh_119 : shapeOf Tryd.prog 119 = some (false, 1) := by kernel_rfl
@[push_cast] theorem sz_119 : (Tryd.prog.info? 119).map (·.size) = some 1 := by kernel_rfl
instance : Shp Tryd.prog 119 false 1 := ⟨sh_119⟩
instance : Siz Tryd.prog 119 1 := ⟨sz_119⟩
@[push_cast] theorem sh_137 : shapeOf Tryd.prog 137 = some (true, 84) := by kernel_rfl
@[push_cast] theorem sz_137 : (Tryd.prog.info? 137).map (·.size) = some 84 := by kernel_rfl
instance : Shp Tryd.prog 137 true 84 := ⟨sh_137⟩
instance : Siz Tryd.prog 137 84 := ⟨sz_137⟩
@[push_cast] theorem sh_143 : shapeOf Tryd.prog 143 = some (true, 2) := by kernel_rfl
@[push_cast] theorem sz_143 : (Tryd.prog.info? 143).map (·.size) = some 2 := by kernel_rfl
instance : Shp Tryd.prog 143 true 2 := ⟨sh_143⟩
instance : Siz Tryd.prog 143 2 := ⟨sz_143⟩
@[push_cast] theorem sh_144 : shapeOf Tryd.prog 144 = some (true, 32) := by kernel_rfl
@[push_cast] theorem sz_144 : (Tryd.prog.info? 144).map (·.size) = some 32 := by kernel_rfl
instance : Shp Tryd.prog 144 true 32 := ⟨sh_144⟩
instance : Siz Tryd.prog 144 32 := ⟨sz_144⟩
@[push_cast] theorem sh_149 : shapeOf Tryd.prog 149 = some (true, 24) := by kernel_rfl
@[push_cast] theorem sz_149 : (Tryd.prog.info? 149).map (·.size) = some 24 := by kernel_rfl
instance : Shp Tryd.prog 149 true 24 := ⟨sh_149⟩
instance : Siz Tryd.prog 149 24 := ⟨sz_149⟩
@[push_cast] theorem sh_156 : shapeOf Tryd.prog 156 = some (true, 20) := by kernel_rfl
@[push_cast] theorem sz_156 : (Tryd.prog.info? 156).map (·.size) = some 20 := by kernel_rfl
instance : Shp Tryd.prog 156 true 20 := ⟨sh_156⟩
instance : Siz Tryd.prog 156 20 := ⟨sz_156⟩
@[push_cast] theorem sh_158 : shapeOf Tryd.prog 158 = some (true, 65) := by kernel_rfl
@[push_cast] theorem sz_158 : (Tryd.prog.info? 158).map (·.size) = some 65 := by kernel_rfl
instance : Shp Tryd.prog 158 true 65 := ⟨sh_158⟩
instance : Siz Tryd.prog 158 65 := ⟨sz_158⟩
@[push_cast] theorem sh_161 : shapeOf Tryd.prog 161 = some (true, 32) := by kernel_rfl
@[push_cast] theorem sz_161 : (Tryd.prog.info? 161).map (·.size) = some 32 := by kernel_rfl
instance : Shp Tryd.prog 161 true 32 := ⟨sh_161⟩
instance : Siz Tryd.prog 161 32 := ⟨sz_161⟩
@[push_cast] theorem sh_162 : shapeOf Tryd.prog 162 = some (true, 64) := by kernel_rfl
@[push_cast] theorem sz_162 : (Tryd.prog.info? 162).map (·.size) = some 64 := by kernel_rfl
instance : Shp Tryd.prog 162 true 64 := ⟨sh_162⟩
instance : Siz Tryd.prog 162 64 := ⟨sz_162⟩
@[push_cast] theorem al_3 (wb : World) (L : Own) (K : Value → Own → Prop) : AllocX Tryd.prog 3 wb L (tag K) = NewX wb L (.cells #[.int .i64 0] 3 (0, 0)) (tag fun b L => K (.pointer (some ⟨b, 0, none⟩)) L) := allocX_eq (z := .int .i64 0) (by kernel_rfl) wb L K
@[push_cast] theorem al_24 (wb : World) (L : Own) (K : Value → Own → Prop) : AllocX Tryd.prog 24 wb L (tag K) = NewX wb L (.cells #[.int .i64 0, .int .i64 0, .int .i64 0, .int .i64 0, .slice none 0 0] 24 (0, 0)) (tag fun b L => K (.pointer (some ⟨b, 0, none⟩)) L) := allocX_eq (z := .agg #[.int .i64 0, .int .i64 0, .int .i64 0, .int .i64 0, .slice none 0 0]) (by kernel_rfl) wb L K
@[push_cast] theorem al_26 (wb : World) (L : Own) (K : Value → Own → Prop) : AllocX Tryd.prog 26 wb L (tag K) = NewX wb L (.cells #[.string ⟨#[]⟩, .bool false, .int .i64 0, .int .i64 0, .int .i64 0, .int .i64 0, .slice none 0 0] 26 (0, 0)) (tag fun b L => K (.pointer (some ⟨b, 0, none⟩)) L) := allocX_eq (z := .agg #[.string ⟨#[]⟩, .bool false, .int .i64 0, .int .i64 0, .int .i64 0, .int .i64 0, .slice none 0 0]) (by kernel_rfl) wb L K
@[push_cast] theorem al_29 (wb : World) (L : Own) (K : Value → Own → Prop) : AllocX Tryd.prog 29 wb L (tag K) = NewX wb L (.cells #[.bool false, .int .i64 0, .string ⟨#[]⟩, .slice none 0 0] 29 (0, 0)) (tag fun b L => K (.pointer (some ⟨b, 0, none⟩)) L) := allocX_eq (z := .agg #[.bool false, .int .i64 0, .string ⟨#[]⟩, .slice none 0 0]) (by kernel_rfl) wb L K
@[push_cast] theorem al_46 (wb : World) (L : Own) (K : Value → Own → Prop) : AllocX Tryd.prog 46 wb L (tag K) = NewX wb L (.cells #[.slice none 0 0, .slice none 0 0] 46 (0, 0)) (tag fun b L => K (.pointer (some ⟨b, 0, none⟩)) L) := allocX_eq (z := .agg #[.slice none 0 0, .slice none 0 0]) (by kernel_rfl) wb L K
@[push_cast] theorem al_50 (wb : World) (L : Own) (K : Value → Own → Prop) : AllocX Tryd.prog 50 wb L (tag K) = NewX wb L (.cells #[.int .i64 0, .slice none 0 0, .int .i64 0] 50 (0, 0)) (tag fun b L => K (.pointer (some ⟨b, 0, none⟩)) L) := allocX_eq (z := .agg #[.int .i64 0, .slice none 0 0, .int .i64 0]) (by kernel_rfl) wb L K
@[push_cast] theorem al_73 (wb : World) (L : Own) (K : Value → Own → Prop) : AllocX Tryd.prog 73 wb L (tag K) = NewX wb L (.cells #[.int .u64 0] 73 (0, 0)) (tag fun b L => K (.pointer (some ⟨b, 0, none⟩)) L) := allocX_eq (z := .int .u64 0) (by kernel_rfl) wb L K
@[push_cast] theorem al_80 (wb : World) (L : Own) (K : Value → Own → Prop) : AllocX Tryd.prog 80 wb L (tag K) = NewX wb L (.cells #[.string ⟨#[]⟩, .string ⟨#[]⟩] 80 (0, 0)) (tag fun b L => K (.pointer (some ⟨b, 0, none⟩)) L) := allocX_eq (z := .agg #[.string ⟨#[]⟩, .string ⟨#[]⟩]) (by kernel_rfl) wb L K
@[push_cast] theorem al_81 (wb : World) (L : Own) (K : Value → Own → Prop) : AllocX Tryd.prog 81 wb L (tag K) = NewX wb L (.cells #[.map none] 81 (0, 0)) (tag fun b L => K (.pointer (some ⟨b, 0, none⟩)) L) := allocX_eq (z := .map none) (by kernel_rfl) wb L K
@[push_cast] theorem al_86 (wb : World) (L : Own) (K : Value → Own → Prop) : AllocX Tryd.prog 86 wb L (tag K) = NewX wb L (.cells #[.slice none 0 0, .slice none 0 0, .string ⟨#[]⟩, .bool false, .int .i64 0, .int .i64 0, .int .i64 0, .int .i64 0, .slice none 0 0, .bool false] 86 (0, 0)) (tag fun b L => K (.pointer (some ⟨b, 0, none⟩)) L) := allocX_eq (z := .agg #[.slice none 0 0, .slice none 0 0, .string ⟨#[]⟩, .bool false, .int .i64 0, .int .i64 0, .int .i64 0, .int .i64 0, .slice none 0 0, .bool false]) (by kernel_rfl) wb L K
@[push_cast] theorem al_92 (wb : World) (L : Own) (K : Value → Own → Prop) : AllocX Tryd.prog 92 wb L (tag K) = NewX wb L (.cells #[.slice none 0 0, .string ⟨#[]⟩, .bool false, .int .i64 0, .int .i64 0, .int .i64 0, .int .i64 0, .slice none 0 0, .slice none 0 0, .bool false] 92 (0, 0)) (tag fun b L => K (.pointer (some ⟨b, 0, none⟩)) L) := allocX_eq (z := .agg #[.slice none 0 0, .string ⟨#[]⟩, .bool false, .int .i64 0, .int .i64 0, .int .i64 0, .int .i64 0, .slice none 0 0, .slice none 0 0, .bool false]) (by kernel_rfl) wb L K
@[push_cast] theorem al_119 (wb : World) (L : Own) (K : Value → Own → Prop) : AllocX Tryd.prog 119 wb L (tag K) = NewX wb L (.cells #[.nilFunc] 119 (0, 0)) (tag fun b L => K (.pointer (some ⟨b, 0, none⟩)) L) := allocX_eq (z := .nilFunc) (by kernel_rfl) wb L K
@[push_cast] theorem al_143 (wb : World) (L : Own) (K : Value → Own → Prop) : AllocX Tryd.prog 143 wb L (tag K) = NewX wb L (.cells #[.int .u8 0, .int .u8 0] 143 (0, 0)) (tag fun b L => K (.pointer (some ⟨b, 0, none⟩)) L) := allocX_eq (z := .agg #[.int .u8 0, .int .u8 0]) (by kernel_rfl) wb L K
@[push_cast] theorem al_149 (wb : World) (L : Own) (K : Value → Own → Prop) : AllocX Tryd.prog 149 wb L (tag K) = NewX wb L (.cells #[.int .u8 0, .int .u8 0, .int .u8 0, .int .u8 0, .int .u8 0, .int .u8 0, .int .u8 0, .int .u8 0, .int .u8 0, .int .u8 0, .int .u8 0, .int .u8 0, .int .u8 0, .int .u8 0, .int .u8 0, .int .u8 0, .int .u8 0, .int .u8 0, .int .u8 0, .int .u8 0, .int .u8 0, .int .u8 0, .int .u8 0, .int .u8 0] 149 (0, 0)) (tag fun b L => K (.pointer (some ⟨b, 0, none⟩)) L) := allocX_eq (z := .agg #[.int .u8 0, .int .u8 0, .int .u8 0, .int .u8 0, .int .u8 0, .int .u8 0, .int .u8 0, .int .u8 0, .int .u8 0, .int .u8 0, .int .u8 0, .int .u8 0, .int .u8 0, .int .u8 0, .int .u8 0, .int .u8 0, .int .u8 0, .int .u8 0, .int .u8 0, .int .u8 0, .int .u8 0, .int .u8 0, .int .u8 0, .int .u8 0]) (by kernel_rfl) wb L K
theorem un_22 : Tryd.prog.underlying 22 = some (.slice 26) := by kernel_rfl
theorem ez_22 : (Tryd.prog.info? 26).map (·.size) = some 7 := by kernel_rfl
@[push_cast] theorem ix_22 (b off n c : Nat) (k : IntKind) (i : Int) (h0 : 0 ≤ i) (h1 : i < n) : PureX Tryd.prog (Instr.indexAt 22 (.slice (some ⟨b, off, none⟩) n c) (.int k i)) (tag K) = K (.pointer (some ⟨b, off + i.toNat * 7, none⟩)) := idxS b off n c k un_22 ez_22 i h0 h1
@[push_cast] theorem sHi_22 (b off n c : Nat) (k : IntKind) (i : Int) (h0 : 0 ≤ i) (h1 : i ≤ c) : PureX Tryd.prog (Instr.sliceAt 22 (.slice (some ⟨b, off, none⟩) n c) none (some (.int k i)) none) (tag K) = K (.slice (some ⟨b, off, none⟩) i.toNat c) := slHi n c k un_22 ez_22 i _ (fun x h => by cases h; rfl) h0 h1
@[push_cast] theorem sLo_22 (b off n c : Nat) (k : IntKind) (i : Int) (h0 : 0 ≤ i) (h1 : i ≤ n) : PureX Tryd.prog (Instr.sliceAt 22 (.slice (some ⟨b, off, none⟩) n c) (some (.int k i)) none none) (tag K) = K (.slice (some ⟨b, if c = i.toNat then off else off + i.toNat * 7, none⟩) (n - i.toNat) (c - i.toNat)) := slLo b off n c k un_22 ez_22 i h0 h1
@[push_cast] theorem sLoHi_22 (b off n c : Nat) (k : IntKind) (i j : Int) (h0 : 0 ≤ i) (h1 : i ≤ j) (h2 : j ≤ c) : PureX Tryd.prog (Instr.sliceAt 22 (.slice (some ⟨b, off, none⟩) n c) (some (.int k i)) (some (.int k j)) none) (tag K) = K (.slice (some ⟨b, if c = i.toNat then off else off + i.toNat * 7, none⟩) (j.toNat - i.toNat) (c - i.toNat)) := slLoHi b off n c k un_22 ez_22 i j h0 h1 h2
@[push_cast] theorem sHiMax_22 (n c : Nat) (a : Option Addr) (k : IntKind) (i j : Int) (h0 : 0 ≤ i) (h1 : i ≤ j) (h2 : j ≤ c) : PureX Tryd.prog (Instr.sliceAt 22 (.slice a n c) none (some (.int k i)) (some (.int k j))) (tag K) = K (.slice a i.toNat j.toNat) := slHiMax n c k un_22 ez_22 i j a h0 h1 h2
theorem un_27 : Tryd.prog.underlying 27 = some (.slice 29) := by kernel_rfl
theorem ez_27 : (Tryd.prog.info? 29).map (·.size) = some 4 := by kernel_rfl
@[push_cast] theorem ix_27 (b off n c : Nat) (k : IntKind) (i : Int) (h0 : 0 ≤ i) (h1 : i < n) : PureX Tryd.prog (Instr.indexAt 27 (.slice (some ⟨b, off, none⟩) n c) (.int k i)) (tag K) = K (.pointer (some ⟨b, off + i.toNat * 4, none⟩)) := idxS b off n c k un_27 ez_27 i h0 h1
@[push_cast] theorem sHi_27 (b off n c : Nat) (k : IntKind) (i : Int) (h0 : 0 ≤ i) (h1 : i ≤ c) : PureX Tryd.prog (Instr.sliceAt 27 (.slice (some ⟨b, off, none⟩) n c) none (some (.int k i)) none) (tag K) = K (.slice (some ⟨b, off, none⟩) i.toNat c) := slHi n c k un_27 ez_27 i _ (fun x h => by cases h; rfl) h0 h1
@[push_cast] theorem sLo_27 (b off n c : Nat) (k : IntKind) (i : Int) (h0 : 0 ≤ i) (h1 : i ≤ n) : PureX Tryd.prog (Instr.sliceAt 27 (.slice (some ⟨b, off, none⟩) n c) (some (.int k i)) none none) (tag K) = K (.slice (some ⟨b, if c = i.toNat then off else off + i.toNat * 4, none⟩) (n - i.toNat) (c - i.toNat)) := slLo b off n c k un_27 ez_27 i h0 h1
@[push_cast] theorem sLoHi_27 (b off n c : Nat) (k : IntKind) (i j : Int) (h0 : 0 ≤ i) (h1 : i ≤ j) (h2 : j ≤ c) : PureX Tryd.prog (Instr.sliceAt 27 (.slice (some ⟨b, off, none⟩) n c) (some (.int k i)) (some (.int k j)) none) (tag K) = K (.slice (some ⟨b, if c = i.toNat then off else off + i.toNat * 4, none⟩) (j.toNat - i.toNat) (c - i.toNat)) := slLoHi b off n c k un_27 ez_27 i j h0 h1 h2
@[push_cast] theorem sHiMax_27 (n c : Nat) (a : Option Addr) (k : IntKind) (i j : Int) (h0 : 0 ≤ i) (h1 : i ≤ j) (h2 : j ≤ c) : PureX Tryd.prog (Instr.sliceAt 27 (.slice a n c) none (some (.int k i)) (some (.int k j))) (tag K) = K (.slice a i.toNat j.toNat) := slHiMax n c k un_27 ez_27 i j a h0 h1 h2
theorem un_43 : Tryd.prog.underlying 43 = some (.slice 46) := by kernel_rfl
theorem ez_43 : (Tryd.prog.info? 46).map (·.size) = some 2 := by kernel_rfl
@[push_cast] theorem ix_43 (b off n c : Nat) (k : IntKind) (i : Int) (h0 : 0 ≤ i) (h1 : i < n) : PureX Tryd.prog (Instr.indexAt 43 (.slice (some ⟨b, off, none⟩) n c) (.int k i)) (tag K) = K (.pointer (some ⟨b, off + i.toNat * 2, none⟩)) := idxS b off n c k un_43 ez_43 i h0 h1
theorem un_44 : Tryd.prog.underlying 44 = some (.slice 80) := by kernel_rfl
theorem ez_44 : (Tryd.prog.info? 80).map (·.size) = some 2 := by kernel_rfl
@[push_cast] theorem ix_44 (b off n c : Nat) (k : IntKind) (i : Int) (h0 : 0 ≤ i) (h1 : i < n) : PureX Tryd.prog (Instr.indexAt 44 (.slice (some ⟨b, off, none⟩) n c) (.int k i)) (tag K) = K (.pointer (some ⟨b, off + i.toNat * 2, none⟩)) := idxS b off n c k un_44 ez_44 i h0 h1
theorem un_48 : Tryd.prog.underlying 48 = some (.slice 3) := by kernel_rfl
theorem ez_48 : (Tryd.prog.info? 3).map (·.size) = some 1 := by kernel_rfl
@[push_cast] theorem ix_48 (b off n c : Nat) (k : IntKind) (i : Int) (h0 : 0 ≤ i) (h1 : i < n) : PureX Tryd.prog (Instr.indexAt 48 (.slice (some ⟨b, off, none⟩) n c) (.int k i)) (tag K) = K (.pointer (some ⟨b, off + i.toNat * 1, none⟩)) := idxS b off n c k un_48 ez_48 i h0 h1
@[push_cast] theorem sHi_48 (b off n c : Nat) (k : IntKind) (i : Int) (h0 : 0 ≤ i) (h1 : i ≤ c) : PureX Tryd.prog (Instr.sliceAt 48 (.slice (some ⟨b, off, none⟩) n c) none (some (.int k i)) none) (tag K) = K (.slice (some ⟨b, off, none⟩) i.toNat c) := slHi n c k un_48 ez_48 i _ (fun x h => by cases h; rfl) h0 h1
@[push_cast] theorem sLo_48 (b off n c : Nat) (k : IntKind) (i : Int) (h0 : 0 ≤ i) (h1 : i ≤ n) : PureX Tryd.prog (Instr.sliceAt 48 (.slice (some ⟨b, off, none⟩) n c) (some (.int k i)) none none) (tag K) = K (.slice (some ⟨b, if c = i.toNat then off else off + i.toNat * 1, none⟩) (n - i.toNat) (c - i.toNat)) := slLo b off n c k un_48 ez_48 i h0 h1
@[push_cast] theorem sLoHi_48 (b off n c : Nat) (k : IntKind) (i j : Int) (h0 : 0 ≤ i) (h1 : i ≤ j) (h2 : j ≤ c) : PureX Tryd.prog (Instr.sliceAt 48 (.slice (some ⟨b, off, none⟩) n c) (some (.int k i)) (some (.int k j)) none) (tag K) = K (.slice (some ⟨b, if c = i.toNat then off else off + i.toNat * 1, none⟩) (j.toNat - i.toNat) (c - i.toNat)) := slLoHi b off n c k un_48 ez_48 i j h0 h1 h2
@[push_cast] theorem sHiMax_48 (n c : Nat) (a : Option Addr) (k : IntKind) (i j : Int) (h0 : 0 ≤ i) (h1 : i ≤ j) (h2 : j ≤ c) : PureX Tryd.prog (Instr.sliceAt 48 (.slice a n c) none (some (.int k i)) (some (.int k j))) (tag K) = K (.slice a i.toNat j.toNat) := slHiMax n c k un_48 ez_48 i j a h0 h1 h2
theorem un_57 : Tryd.prog.underlying 57 = some (.slice 9) := by kernel_rfl
theorem ez_57 : (Tryd.prog.info? 9).map (·.size) = some 1 := by kernel_rfl
@[push_cast] theorem ix_57 (b off n c : Nat) (k : IntKind) (i : Int) (h0 : 0 ≤ i) (h1 : i < n) : PureX Tryd.prog (Instr.indexAt 57 (.slice (some ⟨b, off, none⟩) n c) (.int k i)) (tag K) = K (.pointer (some ⟨b, off + i.toNat * 1, none⟩)) := idxS b off n c k un_57 ez_57 i h0 h1
theorem un_88 : Tryd.prog.underlying 88 = some (.slice 92) := by kernel_rfl
theorem ez_88 : (Tryd.prog.info? 92).map (·.size) = some 10 := by kernel_rfl
@[push_cast] theorem ix_88 (b off n c : Nat) (k : IntKind) (i : Int) (h0 : 0 ≤ i) (h1 : i < n) : PureX Tryd.prog (Instr.indexAt 88 (.slice (some ⟨b, off, none⟩) n c) (.int k i)) (tag K) = K (.pointer (some ⟨b, off + i.toNat * 10, none⟩)) := idxS b off n c k un_88 ez_88 i h0 h1
@[push_cast] theorem sHi_88 (b off n c : Nat) (k : IntKind) (i : Int) (h0 : 0 ≤ i) (h1 : i ≤ c) : PureX Tryd.prog (Instr.sliceAt 88 (.slice (some ⟨b, off, none⟩) n c) none (some (.int k i)) none) (tag K) = K (.slice (some ⟨b, off, none⟩) i.toNat c) := slHi n c k un_88 ez_88 i _ (fun x h => by cases h; rfl) h0 h1
@[push_cast] theorem sLo_88 (b off n c : Nat) (k : IntKind) (i : Int) (h0 : 0 ≤ i) (h1 : i ≤ n) : PureX Tryd.prog (Instr.sliceAt 88 (.slice (some ⟨b, off, none⟩) n c) (some (.int k i)) none none) (tag K) = K (.slice (some ⟨b, if c = i.toNat then off else off + i.toNat * 10, none⟩) (n - i.toNat) (c - i.toNat)) := slLo b off n c k un_88 ez_88 i h0 h1
@[push_cast] theorem sLoHi_88 (b off n c : Nat) (k : IntKind) (i j : Int) (h0 : 0 ≤ i) (h1 : i ≤ j) (h2 : j ≤ c) : PureX Tryd.prog (Instr.sliceAt 88 (.slice (some ⟨b, off, none⟩) n c) (some (.int k i)) (some (.int k j)) none) (tag K) = K (.slice (some ⟨b, if c = i.toNat then off else off + i.toNat * 10, none⟩) (j.toNat - i.toNat) (c - i.toNat)) := slLoHi b off n c k un_88 ez_88 i j h0 h1 h2
@[push_cast] theorem sHiMax_88 (n c : Nat) (a : Option Addr) (k : IntKind) (i j : Int) (h0 : 0 ≤ i) (h1 : i ≤ j) (h2 : j ≤ c) : PureX Tryd.prog (Instr.sliceAt 88 (.slice a n c) none (some (.int k i)) (some (.int k j))) (tag K) = K (.slice a i.toNat j.toNat) := slHiMax n c k un_88 ez_88 i j a h0 h1 h2
theorem un_97 : Tryd.prog.underlying 97 = some (.slice 5) := by kernel_rfl
theorem ez_97 : (Tryd.prog.info? 5).map (·.size) = some 1 := by kernel_rfl
@[push_cast] theorem ix_97 (b off n c : Nat) (k : IntKind) (i : Int) (h0 : 0 ≤ i) (h1 : i < n) : PureX Tryd.prog (Instr.indexAt 97 (.slice (some ⟨b, off, none⟩) n c) (.int k i)) (tag K) = K (.pointer (some ⟨b, off + i.toNat * 1, none⟩)) := idxS b off n c k un_97 ez_97 i h0 h1
theorem ua_137 : Tryd.prog.underlying 137 = some (.array 21 136) := by kernel_rfl
theorem ez_137 : (Tryd.prog.info? 136).map (·.size) = some 4 := by kernel_rfl
@[push_cast] theorem ix_137 (b off : Nat) (k : IntKind) (i : Int) (h0 : 0 ≤ i) (h1 : i < (21 : Nat)) : PureX Tryd.prog (Instr.indexAt 137 (.pointer (some ⟨b, off, none⟩)) (.int k i)) (tag K) = K (.pointer (some ⟨b, off + i.toNat * 4, none⟩)) := idxA b off k ua_137 ez_137 i h0 h1
theorem ua_141 : Tryd.prog.underlying 141 = some (.array 256 5) := by kernel_rfl
theorem ez_141 : (Tryd.prog.info? 5).map (·.size) = some 1 := by kernel_rfl
@[push_cast] theorem ix_141 (b off : Nat) (k : IntKind) (i : Int) (h0 : 0 ≤ i) (h1 : i < (256 : Nat)) : PureX Tryd.prog (Instr.indexAt 141 (.pointer (some ⟨b, off, none⟩)) (.int k i)) (tag K) = K (.pointer (some ⟨b, off + i.toNat * 1, none⟩)) := idxA b off k ua_141 ez_141 i h0 h1
theorem ua_144 : Tryd.prog.underlying 144 = some (.array 16 143) := by kernel_rfl
theorem ez_144 : (Tryd.prog.info? 143).map (·.size) = some 2 := by kernel_rfl
@[push_cast] theorem ix_144 (b off : Nat) (k : IntKind) (i : Int) (h0 : 0 ≤ i) (h1 : i < (16 : Nat)) : PureX Tryd.prog (Instr.indexAt 144 (.pointer (some ⟨b, off, none⟩)) (.int k i)) (tag K) = K (.pointer (some ⟨b, off + i.toNat * 2, none⟩)) := idxA b off k ua_144 ez_144 i h0 h1
theorem ua_156 : Tryd.prog.underlying 156 = some (.array 20 36) := by kernel_rfl
theorem ez_156 : (Tryd.prog.info? 36).map (·.size) = some 1 := by kernel_rfl
@[push_cast] theorem ix_156 (b off : Nat) (k : IntKind) (i : Int) (h0 : 0 ≤ i) (h1 : i < (20 : Nat)) : PureX Tryd.prog (Instr.indexAt 156 (.pointer (some ⟨b, off, none⟩)) (.int k i)) (tag K) = K (.pointer (some ⟨b, off + i.toNat * 1, none⟩)) := idxA b off k ua_156 ez_156 i h0 h1
theorem ua_158 : Tryd.prog.underlying 158 = some (.array 65 5) := by kernel_rfl
theorem ez_158 : (Tryd.prog.info? 5).map (·.size) = some 1 := by kernel_rfl
@[push_cast] theorem ix_158 (b off : Nat) (k : IntKind) (i : Int) (h0 : 0 ≤ i) (h1 : i < (65 : Nat)) : PureX Tryd.prog (Instr.indexAt 158 (.pointer (some ⟨b, off, none⟩)) (.int k i)) (tag K) = K (.pointer (some ⟨b, off + i.toNat * 1, none⟩)) := idxA b off k ua_158 ez_158 i h0 h1
theorem ua_161 : Tryd.prog.underlying 161 = some (.array 32 5) := by kernel_rfl
theorem ez_161 : (Tryd.prog.info? 5).map (·.size) = some 1 := by kernel_rfl
@[push_cast] theorem ix_161 (b off : Nat) (k : IntKind) (i : Int) (h0 : 0 ≤ i) (h1 : i < (32 : Nat)) : PureX Tryd.prog (Instr.indexAt 161 (.pointer (some ⟨b, off, none⟩)) (.int k i)) (tag K) = K (.pointer (some ⟨b, off + i.toNat * 1, none⟩)) := idxA b off k ua_161 ez_161 i h0 h1
theorem ua_162 : Tryd.prog.underlying 162 = some (.array 64 5) := by kernel_rfl
theorem ez_162 : (Tryd.prog.info? 5).map (·.size) = some 1 := by kernel_rfl
@[push_cast] theorem ix_162 (b off : Nat) (k : IntKind) (i : Int) (h0 : 0 ≤ i) (h1 : i < (64 : Nat)) : PureX Tryd.prog (Instr.indexAt 162 (.pointer (some ⟨b, off, none⟩)) (.int k i)) (tag K) = K (.pointer (some ⟨b, off + i.toNat * 1, none⟩)) := idxA b off k ua_162 ez_162 i h0 h1
@[push_cast] theorem ln_9 (ty : TypeId) (l : List UInt8) : PureX Tryd.prog (Builtin.len_ #[9] ty #[.string ⟨l.toArray⟩]) (tag K) = K (.int .i64 l.length) := px (fun w => by kernel_rfl) K
@[push_cast] theorem ln_10 (ty : TypeId) (l : List UInt8) : PureX Tryd.prog (Builtin.len_ #[10] ty #[.string ⟨l.toArray⟩]) (tag K) = K (.int .i64 l.length) := px (fun w => by kernel_rfl) K
@[push_cast] theorem ln_11 (ty : TypeId) (l : List UInt8) : PureX Tryd.prog (Builtin.len_ #[11] ty #[.string ⟨l.toArray⟩]) (tag K) = K (.int .i64 l.length) := px (fun w => by kernel_rfl) K
@[push_cast] theorem ln_22 (ty : TypeId) (a : Option Addr) (n c : Nat) : PureX Tryd.prog (Builtin.len_ #[22] ty #[.slice a n c]) (tag K) = K (.int .i64 n) := px (fun w => by kernel_rfl) K
@[push_cast] theorem ln_27 (ty : TypeId) (a : Option Addr) (n c : Nat) : PureX Tryd.prog (Builtin.len_ #[27] ty #[.slice a n c]) (tag K) = K (.int .i64 n) := px (fun w => by kernel_rfl) K
@[push_cast] theorem ln_43 (ty : TypeId) (a : Option Addr) (n c : Nat) : PureX Tryd.prog (Builtin.len_ #[43] ty #[.slice a n c]) (tag K) = K (.int .i64 n) := px (fun w => by kernel_rfl) K
@[push_cast] theorem ln_44 (ty : TypeId) (a : Option Addr) (n c : Nat) : PureX Tryd.prog (Builtin.len_ #[44] ty #[.slice a n c]) (tag K) = K (.int .i64 n) := px (fun w => by kernel_rfl) K
@[push_cast] theorem ln_48 (ty : TypeId) (a : Option Addr) (n c : Nat) : PureX Tryd.prog (Builtin.len_ #[48] ty #[.slice a n c]) (tag K) = K (.int .i64 n) := px (fun w => by kernel_rfl) K
@[push_cast] theorem ln_57 (ty : TypeId) (a : Option Addr) (n c : Nat) : PureX Tryd.prog (Builtin.len_ #[57] ty #[.slice a n c]) (tag K) = K (.int .i64 n) := px (fun w => by kernel_rfl) K
@[push_cast] theorem ln_88 (ty : TypeId) (a : Option Addr) (n c : Nat) : PureX Tryd.prog (Builtin.len_ #[88] ty #[.slice a n c]) (tag K) = K (.int .i64 n) := px (fun w => by kernel_rfl) K
@[push_cast] theorem ln_97 (ty : TypeId) (a : Option Addr) (n c : Nat) : PureX Tryd.prog (Builtin.len_ #[97] ty #[.slice a n c]) (tag K) = K (.int .i64 n) := px (fun w => by kernel_rfl) K
theorem us_9 : Tryd.prog.underlying 9 = some .string := by kernel_rfl
@[push_cast] theorem is_9 (l : List UInt8) (k : IntKind) (i : Int) (h0 : 0 ≤ i) (h1 : i < l.length) : PureX Tryd.prog (Instr.index 9 (.string ⟨l.toArray⟩) (.int k i)) (tag K) = K (.int .u8 (l.getD i.toNat 0).toNat) := idxStr l k us_9 i h0 h1
@[push_cast] theorem ssLoHi_9 (l : List UInt8) (k : IntKind) (i j : Int) (h0 : 0 ≤ i) (h1 : i ≤ j) (h2 : j ≤ l.length) : PureX Tryd.prog (Instr.sliceAt 9 (.string ⟨l.toArray⟩) (some (.int k i)) (some (.int k j)) none) (tag K) = K (str ((l.take j.toNat).drop i.toNat)) := slStr l k us_9 i j h0 h1 h2
@[push_cast] theorem ssLo_9 (l : List UInt8) (k : IntKind) (i : Int) (h0 : 0 ≤ i) (h1 : i ≤ l.length) : PureX Tryd.prog (Instr.sliceAt 9 (.string ⟨l.toArray⟩) (some (.int k i)) none none) (tag K) = K (str (l.drop i.toNat)) := slStrLo l k us_9 i h0 h1
@[push_cast] theorem ssHi_9 (l : List UInt8) (k : IntKind) (i : Int) (h0 : 0 ≤ i) (h1 : i ≤ l.length) : PureX Tryd.prog (Instr.sliceAt 9 (.string ⟨l.toArray⟩) none (some (.int k i)) none) (tag K) = K (str (l.take i.toNat)) := slStrHi l k us_9 i h0 h1
theorem ub_4 : Tryd.prog.underlying 4 = some .bool := by kernel_rfl
@[push_cast] theorem be_4 (x y : Operand) (a b : Bool) : PureX Tryd.prog (binV .eql 4 x y (.bool a) (.bool b)) (tag K) = K (.bool (a == b)) := bin_bool_eql x y ub_4 a b
@[push_cast] theorem bn_4 (x y : Operand) (a b : Bool) : PureX Tryd.prog (binV .neq 4 x y (.bool a) (.bool b)) (tag K) = K (.bool (a != b)) := bin_bool_neq x y ub_4 a b
@[push_cast] theorem bu_24_0 (x1 : Int) : PureX Tryd.prog (Instr.build 24 #[(0, .int .i64 x1)]) (tag K) = K (.agg #[.int .i64 x1, .int .i64 0, .int .i64 0, .int .i64 0, .slice none 0 0]) := px (fun w => by kernel_rfl) K
@[push_cast] theorem bu_24_0_4 (x2 : Int) (x3a : Option Addr) (x3n x3c : Nat) : PureX Tryd.prog (Instr.build 24 #[(0, .int .i64 x2), (4, .slice x3a x3n x3c)]) (tag K) = K (.agg #[.int .i64 x2, .int .i64 0, .int .i64 0, .int .i64 0, .slice x3a x3n x3c]) := px (fun w => by kernel_rfl) K
@[push_cast] theorem bu_24_4 (x4a : Option Addr) (x4n x4c : Nat) : PureX Tryd.prog (Instr.build 24 #[(4, .slice x4a x4n x4c)]) (tag K) = K (.agg #[.int .i64 0, .int .i64 0, .int .i64 0, .int .i64 0, .slice x4a x4n x4c]) := px (fun w => by kernel_rfl) K
@[push_cast] theorem bu_26_0_1_2 (x5 : ByteArray) (x6 : Bool) (x7 x8 x9 x10 : Int) (x11a : Option Addr) (x11n x11c : Nat) : PureX Tryd.prog (Instr.build 26 #[(0, .string x5), (1, .bool x6), (2, .agg #[.int .i64 x7, .int .i64 x8, .int .i64 x9, .int .i64 x10, .slice x11a x11n x11c])]) (tag K) = K (.agg #[.string x5, .bool x6, .int .i64 x7, .int .i64 x8, .int .i64 x9, .int .i64 x10, .slice x11a x11n x11c]) := px (fun w => by kernel_rfl) K
@[push_cast] theorem bu_26_0_2 (x12 : ByteArray) (x13 x14 x15 x16 : Int) (x17a : Option Addr) (x17n x17c : Nat) : PureX Tryd.prog (Instr.build 26 #[(0, .string x12), (2, .agg #[.int .i64 x13, .int .i64 x14, .int .i64 x15, .int .i64 x16, .slice x17a x17n x17c])]) (tag K) = K (.agg #[.string x12, .bool false, .int .i64 x13, .int .i64 x14, .int .i64 x15, .int .i64 x16, .slice x17a x17n x17c]) := px (fun w => by kernel_rfl) K
@[push_cast] theorem bu_29_  : PureX Tryd.prog (Instr.build 29 #[]) (tag K) = K (.agg #[.bool false, .int .i64 0, .string ⟨#[]⟩, .slice none 0 0]) := px (fun w => by kernel_rfl) K
@[push_cast] theorem bu_29_1 (x18 : Int) : PureX Tryd.prog (Instr.build 29 #[(1, .int .i64 x18)]) (tag K) = K (.agg #[.bool false, .int .i64 x18, .string ⟨#[]⟩, .slice none 0 0]) := px (fun w => by kernel_rfl) K
@[push_cast] theorem bu_46_0 (x19a : Option Addr) (x19n x19c : Nat) : PureX Tryd.prog (Instr.build 46 #[(0, .slice x19a x19n x19c)]) (tag K) = K (.agg #[.slice x19a x19n x19c, .slice none 0 0]) := px (fun w => by kernel_rfl) K
@[push_cast] theorem bu_46_0_1 (x20a x21a : Option Addr) (x20n x20c x21n x21c : Nat) : PureX Tryd.prog (Instr.build 46 #[(0, .slice x20a x20n x20c), (1, .slice x21a x21n x21c)]) (tag K) = K (.agg #[.slice x20a x20n x20c, .slice x21a x21n x21c]) := px (fun w => by kernel_rfl) K
@[push_cast] theorem bu_50_  : PureX Tryd.prog (Instr.build 50 #[]) (tag K) = K (.agg #[.int .i64 0, .slice none 0 0, .int .i64 0]) := px (fun w => by kernel_rfl) K
@[push_cast] theorem bu_50_0_1 (x22 : Int) (x23a : Option Addr) (x23n x23c : Nat) : PureX Tryd.prog (Instr.build 50 #[(0, .int .i64 x22), (1, .slice x23a x23n x23c)]) (tag K) = K (.agg #[.int .i64 x22, .slice x23a x23n x23c, .int .i64 0]) := px (fun w => by kernel_rfl) K
@[push_cast] theorem bu_50_0_2 (x24 x25 : Int) : PureX Tryd.prog (Instr.build 50 #[(0, .int .i64 x24), (2, .int .i64 x25)]) (tag K) = K (.agg #[.int .i64 x24, .slice none 0 0, .int .i64 x25]) := px (fun w => by kernel_rfl) K
@[push_cast] theorem bu_86_0_1_2_3 (x26a x27a x34a : Option Addr) (x26n x26c x27n x27c x34n x34c : Nat) (x28 : ByteArray) (x29 x35 : Bool) (x30 x31 x32 x33 : Int) : PureX Tryd.prog (Instr.build 86 #[(0, .slice x26a x26n x26c), (1, .slice x27a x27n x27c), (2, .agg #[.string x28, .bool x29, .int .i64 x30, .int .i64 x31, .int .i64 x32, .int .i64 x33, .slice x34a x34n x34c]), (3, .bool x35)]) (tag K) = K (.agg #[.slice x26a x26n x26c, .slice x27a x27n x27c, .string x28, .bool x29, .int .i64 x30, .int .i64 x31, .int .i64 x32, .int .i64 x33, .slice x34a x34n x34c, .bool x35]) := px (fun w => by kernel_rfl) K
@[push_cast] theorem bu_92_0_1_2_3 (x36a x43a x44a : Option Addr) (x36n x36c x43n x43c x44n x44c : Nat) (x37 : ByteArray) (x38 x45 : Bool) (x39 x40 x41 x42 : Int) : PureX Tryd.prog (Instr.build 92 #[(0, .slice x36a x36n x36c), (1, .agg #[.string x37, .bool x38, .int .i64 x39, .int .i64 x40, .int .i64 x41, .int .i64 x42, .slice x43a x43n x43c]), (2, .slice x44a x44n x44c), (3, .bool x45)]) (tag K) = K (.agg #[.slice x36a x36n x36c, .string x37, .bool x38, .int .i64 x39, .int .i64 x40, .int .i64 x41, .int .i64 x42, .slice x43a x43n x43c, .slice x44a x44n x44c, .bool x45]) := px (fun w => by kernel_rfl) K
@[push_cast] theorem bu_105_0 (x46 : Int) : PureX Tryd.prog (Instr.build 105 #[(0, .int .i64 x46)]) (tag K) = K (.agg #[.int .i64 x46]) := px (fun w => by kernel_rfl) K
@[push_cast] theorem bu_136_0_1_2_3 (x47 : ByteArray) (x48 x49 : Int) (x50 : Bool) : PureX Tryd.prog (Instr.build 136 #[(0, .string x47), (1, .int .i64 x48), (2, .int .i64 x49), (3, .bool x50)]) (tag K) = K (.agg #[.string x47, .int .i64 x48, .int .i64 x49, .bool x50]) := px (fun w => by kernel_rfl) K
@[push_cast] theorem bu_143_0_1 (x51 x52 : Int) : PureX Tryd.prog (Instr.build 143 #[(0, .int .u8 x51), (1, .int .u8 x52)]) (tag K) = K (.agg #[.int .u8 x51, .int .u8 x52]) := px (fun w => by kernel_rfl) K
@[push_cast] theorem fi_50_0 (x53 x55 : Int) (x54a : Option Addr) (x54n x54c : Nat) : PureX Tryd.prog (Instr.field 50 (.agg #[.int .i64 x53, .slice x54a x54n x54c, .int .i64 x55]) 0) (tag K) = K (.int .i64 x53) := px (fun w => by kernel_rfl) K
@[push_cast] theorem mi_9 (x : Value) : PureX Tryd.prog (Instr.makeInterface 9 x) (tag K) = K (.iface 9 x) := px (fun w => by kernel_rfl) K
@[push_cast] theorem cv_2_36 (n : Int) : PureX Tryd.prog (convert 2 36 (.int .i64 n)) (tag K) = K (.int .u64 (IntKind.u64.wrap n)) := px (fun w => by kernel_rfl) K
@[push_cast] theorem cv_3_5 (n : Int) : PureX Tryd.prog (convert 3 5 (.int .i64 n)) (tag K) = K (.int .u8 (IntKind.u8.wrap n)) := px (fun w => by kernel_rfl) K
@[push_cast] theorem cv_3_36 (n : Int) : PureX Tryd.prog (convert 3 36 (.int .i64 n)) (tag K) = K (.int .u64 (IntKind.u64.wrap n)) := px (fun w => by kernel_rfl) K
@[push_cast] theorem cv_3_127 (n : Int) : PureX Tryd.prog (convert 3 127 (.int .i64 n)) (tag K) = K (.int .u64 (IntKind.u64.wrap n)) := px (fun w => by kernel_rfl) K
@[push_cast] theorem cv_5_3 (n : Int) : PureX Tryd.prog (convert 5 3 (.int .u8 n)) (tag K) = K (.int .i64 (IntKind.i64.wrap n)) := px (fun w => by kernel_rfl) K
@[push_cast] theorem cv_5_12 (n : Int) : PureX Tryd.prog (convert 5 12 (.int .u8 n)) (tag K) = K (.int .u64 (IntKind.u64.wrap n)) := px (fun w => by kernel_rfl) K
@[push_cast] theorem cv_5_36 (n : Int) : PureX Tryd.prog (convert 5 36 (.int .u8 n)) (tag K) = K (.int .u64 (IntKind.u64.wrap n)) := px (fun w => by kernel_rfl) K
@[push_cast] theorem cv_5_73 (n : Int) : PureX Tryd.prog (convert 5 73 (.int .u8 n)) (tag K) = K (.int .u64 (IntKind.u64.wrap n)) := px (fun w => by kernel_rfl) K
@[push_cast] theorem cv_36_3 (n : Int) : PureX Tryd.prog (convert 36 3 (.int .u64 n)) (tag K) = K (.int .i64 (IntKind.i64.wrap n)) := px (fun w => by kernel_rfl) K
@[push_cast] theorem cv_36_5 (n : Int) : PureX Tryd.prog (convert 36 5 (.int .u64 n)) (tag K) = K (.int .u8 (IntKind.u8.wrap n)) := px (fun w => by kernel_rfl) K
@[push_cast] theorem cv_36_157 (n : Int) : PureX Tryd.prog (convert 36 157 (.int .u64 n)) (tag K) = K (.int .u32 (IntKind.u32.wrap n)) := px (fun w => by kernel_rfl) K
@[push_cast] theorem cv_127_157 (n : Int) : PureX Tryd.prog (convert 127 157 (.int .u64 n)) (tag K) = K (.int .u32 (IntKind.u32.wrap n)) := px (fun w => by kernel_rfl) K
@[push_cast] theorem cv_157_5 (n : Int) : PureX Tryd.prog (convert 157 5 (.int .u32 n)) (tag K) = K (.int .u8 (IntKind.u8.wrap n)) := px (fun w => by kernel_rfl) K
theorem bs_22_1 {y56 : ByteArray} {y57 : Bool} {y58 y59 y60 y61 : Int} {y62a : Option Addr} {y62n y62c : Nat} {wb : World} {L : Own} {K : Value → World → Own → Prop} (h : NewX wb L (.cells #[.string y56, .bool y57, .int .i64 y58, .int .i64 y59, .int .i64 y60, .int .i64 y61, .slice y62a y62n y62c] 26 (0, 0)) (tag fun b L => K (.slice (some ⟨b, 0, none⟩) 1 1) wb L)) : ValX Tryd.prog (Instr.buildSlice 22 1 #[(0, .agg #[.string y56, .bool y57, .int .i64 y58, .int .i64 y59, .int .i64 y60, .int .i64 y61, .slice y62a y62n y62c])]) wb L (tag K) := valX_new (fun w => by kernel_rfl) h
theorem bs_22_2 {y63 y70 : ByteArray} {y64 y71 : Bool} {y65 y66 y67 y68 y72 y73 y74 y75 : Int} {y69a y76a : Option Addr} {y69n y69c y76n y76c : Nat} {wb : World} {L : Own} {K : Value → World → Own → Prop} (h : NewX wb L (.cells #[.string y63, .bool y64, .int .i64 y65, .int .i64 y66, .int .i64 y67, .int .i64 y68, .slice y69a y69n y69c, .string y70, .bool y71, .int .i64 y72, .int .i64 y73, .int .i64 y74, .int .i64 y75, .slice y76a y76n y76c] 26 (0, 0)) (tag fun b L => K (.slice (some ⟨b, 0, none⟩) 2 2) wb L)) : ValX Tryd.prog (Instr.buildSlice 22 2 #[(0, .agg #[.string y63, .bool y64, .int .i64 y65, .int .i64 y66, .int .i64 y67, .int .i64 y68, .slice y69a y69n y69c]), (1, .agg #[.string y70, .bool y71, .int .i64 y72, .int .i64 y73, .int .i64 y74, .int .i64 y75, .slice y76a y76n y76c])]) wb L (tag K) := valX_new (fun w => by kernel_rfl) h
theorem bs_22_3 {y77 y84 y91 : ByteArray} {y78 y85 y92 : Bool} {y79 y80 y81 y82 y86 y87 y88 y89 y93 y94 y95 y96 : Int} {y83a y90a y97a : Option Addr} {y83n y83c y90n y90c y97n y97c : Nat} {wb : World} {L : Own} {K : Value → World → Own → Prop} (h : NewX wb L (.cells #[.string y77, .bool y78, .int .i64 y79, .int .i64 y80, .int .i64 y81, .int .i64 y82, .slice y83a y83n y83c, .string y84, .bool y85, .int .i64 y86, .int .i64 y87, .int .i64 y88, .int .i64 y89, .slice y90a y90n y90c, .string y91, .bool y92, .int .i64 y93, .int .i64 y94, .int .i64 y95, .int .i64 y96, .slice y97a y97n y97c] 26 (0, 0)) (tag fun b L => K (.slice (some ⟨b, 0, none⟩) 3 3) wb L)) : ValX Tryd.prog (Instr.buildSlice 22 3 #[(0, .agg #[.string y77, .bool y78, .int .i64 y79, .int .i64 y80, .int .i64 y81, .int .i64 y82, .slice y83a y83n y83c]), (1, .agg #[.string y84, .bool y85, .int .i64 y86, .int .i64 y87, .int .i64 y88, .int .i64 y89, .slice y90a y90n y90c]), (2, .agg #[.string y91, .bool y92, .int .i64 y93, .int .i64 y94, .int .i64 y95, .int .i64 y96, .slice y97a y97n y97c])]) wb L (tag K) := valX_new (fun w => by kernel_rfl) h
theorem bs_27_1 {y98 : Bool} {y99 : Int} {y100 : ByteArray} {y101a : Option Addr} {y101n y101c : Nat} {wb : World} {L : Own} {K : Value → World → Own → Prop} (h : NewX wb L (.cells #[.bool y98, .int .i64 y99, .string y100, .slice y101a y101n y101c] 29 (0, 0)) (tag fun b L => K (.slice (some ⟨b, 0, none⟩) 1 1) wb L)) : ValX Tryd.prog (Instr.buildSlice 27 1 #[(0, .agg #[.bool y98, .int .i64 y99, .string y100, .slice y101a y101n y101c])]) wb L (tag K) := valX_new (fun w => by kernel_rfl) h
theorem bs_27_2 {y102 y106 : Bool} {y103 y107 : Int} {y104 y108 : ByteArray} {y105a y109a : Option Addr} {y105n y105c y109n y109c : Nat} {wb : World} {L : Own} {K : Value → World → Own → Prop} (h : NewX wb L (.cells #[.bool y102, .int .i64 y103, .string y104, .slice y105a y105n y105c, .bool y106, .int .i64 y107, .string y108, .slice y109a y109n y109c] 29 (0, 0)) (tag fun b L => K (.slice (some ⟨b, 0, none⟩) 2 2) wb L)) : ValX Tryd.prog (Instr.buildSlice 27 2 #[(0, .agg #[.bool y102, .int .i64 y103, .string y104, .slice y105a y105n y105c]), (1, .agg #[.bool y106, .int .i64 y107, .string y108, .slice y109a y109n y109c])]) wb L (tag K) := valX_new (fun w => by kernel_rfl) h
theorem bs_27_3 {y110 y114 y118 : Bool} {y111 y115 y119 : Int} {y112 y116 y120 : ByteArray} {y113a y117a y121a : Option Addr} {y113n y113c y117n y117c y121n y121c : Nat} {wb : World} {L : Own} {K : Value → World → Own → Prop} (h : NewX wb L (.cells #[.bool y110, .int .i64 y111, .string y112, .slice y113a y113n y113c, .bool y114, .int .i64 y115, .string y116, .slice y117a y117n y117c, .bool y118, .int .i64 y119, .string y120, .slice y121a y121n y121c] 29 (0, 0)) (tag fun b L => K (.slice (some ⟨b, 0, none⟩) 3 3) wb L)) : ValX Tryd.prog (Instr.buildSlice 27 3 #[(0, .agg #[.bool y110, .int .i64 y111, .string y112, .slice y113a y113n y113c]), (1, .agg #[.bool y114, .int .i64 y115, .string y116, .slice y117a y117n y117c]), (2, .agg #[.bool y118, .int .i64 y119, .string y120, .slice y121a y121n y121c])]) wb L (tag K) := valX_new (fun w => by kernel_rfl) h
theorem bs_48_1 {y122 : Int} {wb : World} {L : Own} {K : Value → World → Own → Prop} (h : NewX wb L (.cells #[.int .i64 y122] 3 (0, 0)) (tag fun b L => K (.slice (some ⟨b, 0, none⟩) 1 1) wb L)) : ValX Tryd.prog (Instr.buildSlice 48 1 #[(0, .int .i64 y122)]) wb L (tag K) := valX_new (fun w => by kernel_rfl) h
theorem bs_48_2 {y123 y124 : Int} {wb : World} {L : Own} {K : Value → World → Own → Prop} (h : NewX wb L (.cells #[.int .i64 y123, .int .i64 y124] 3 (0, 0)) (tag fun b L => K (.slice (some ⟨b, 0, none⟩) 2 2) wb L)) : ValX Tryd.prog (Instr.buildSlice 48 2 #[(0, .int .i64 y123), (1, .int .i64 y124)]) wb L (tag K) := valX_new (fun w => by kernel_rfl) h
theorem bs_48_3 {y125 y126 y127 : Int} {wb : World} {L : Own} {K : Value → World → Own → Prop} (h : NewX wb L (.cells #[.int .i64 y125, .int .i64 y126, .int .i64 y127] 3 (0, 0)) (tag fun b L => K (.slice (some ⟨b, 0, none⟩) 3 3) wb L)) : ValX Tryd.prog (Instr.buildSlice 48 3 #[(0, .int .i64 y125), (1, .int .i64 y126), (2, .int .i64 y127)]) wb L (tag K) := valX_new (fun w => by kernel_rfl) h
theorem bs_88_1 {y128a y135a y136a : Option Addr} {y128n y128c y135n y135c y136n y136c : Nat} {y129 : ByteArray} {y130 y137 : Bool} {y131 y132 y133 y134 : Int} {wb : World} {L : Own} {K : Value → World → Own → Prop} (h : NewX wb L (.cells #[.slice y128a y128n y128c, .string y129, .bool y130, .int .i64 y131, .int .i64 y132, .int .i64 y133, .int .i64 y134, .slice y135a y135n y135c, .slice y136a y136n y136c, .bool y137] 92 (0, 0)) (tag fun b L => K (.slice (some ⟨b, 0, none⟩) 1 1) wb L)) : ValX Tryd.prog (Instr.buildSlice 88 1 #[(0, .agg #[.slice y128a y128n y128c, .string y129, .bool y130, .int .i64 y131, .int .i64 y132, .int .i64 y133, .int .i64 y134, .slice y135a y135n y135c, .slice y136a y136n y136c, .bool y137])]) wb L (tag K) := valX_new (fun w => by kernel_rfl) h
theorem bs_88_2 {y138a y145a y146a y148a y155a y156a : Option Addr} {y138n y138c y145n y145c y146n y146c y148n y148c y155n y155c y156n y156c : Nat} {y139 y149 : ByteArray} {y140 y147 y150 y157 : Bool} {y141 y142 y143 y144 y151 y152 y153 y154 : Int} {wb : World} {L : Own} {K : Value → World → Own → Prop} (h : NewX wb L (.cells #[.slice y138a y138n y138c, .string y139, .bool y140, .int .i64 y141, .int .i64 y142, .int .i64 y143, .int .i64 y144, .slice y145a y145n y145c, .slice y146a y146n y146c, .bool y147, .slice y148a y148n y148c, .string y149, .bool y150, .int .i64 y151, .int .i64 y152, .int .i64 y153, .int .i64 y154, .slice y155a y155n y155c, .slice y156a y156n y156c, .bool y157] 92 (0, 0)) (tag fun b L => K (.slice (some ⟨b, 0, none⟩) 2 2) wb L)) : ValX Tryd.prog (Instr.buildSlice 88 2 #[(0, .agg #[.slice y138a y138n y138c, .string y139, .bool y140, .int .i64 y141, .int .i64 y142, .int .i64 y143, .int .i64 y144, .slice y145a y145n y145c, .slice y146a y146n y146c, .bool y147]), (1, .agg #[.slice y148a y148n y148c, .string y149, .bool y150, .int .i64 y151, .int .i64 y152, .int .i64 y153, .int .i64 y154, .slice y155a y155n y155c, .slice y156a y156n y156c, .bool y157])]) wb L (tag K) := valX_new (fun w => by kernel_rfl) h
theorem bs_88_3 {y158a y165a y166a y168a y175a y176a y178a y185a y186a : Option Addr} {y158n y158c y165n y165c y166n y166c y168n y168c y175n y175c y176n y176c y178n y178c y185n y185c y186n y186c : Nat} {y159 y169 y179 : ByteArray} {y160 y167 y170 y177 y180 y187 : Bool} {y161 y162 y163 y164 y171 y172 y173 y174 y181 y182 y183 y184 : Int} {wb : World} {L : Own} {K : Value → World → Own → Prop} (h : NewX wb L (.cells #[.slice y158a y158n y158c, .string y159, .bool y160, .int .i64 y161, .int .i64 y162, .int .i64 y163, .int .i64 y164, .slice y165a y165n y165c, .slice y166a y166n y166c, .bool y167, .slice y168a y168n y168c, .string y169, .bool y170, .int .i64 y171, .int .i64 y172, .int .i64 y173, .int .i64 y174, .slice y175a y175n y175c, .slice y176a y176n y176c, .bool y177, .slice y178a y178n y178c, .string y179, .bool y180, .int .i64 y181, .int .i64 y182, .int .i64 y183, .int .i64 y184, .slice y185a y185n y185c, .slice y186a y186n y186c, .bool y187] 92 (0, 0)) (tag fun b L => K (.slice (some ⟨b, 0, none⟩) 3 3) wb L)) : ValX Tryd.prog (Instr.buildSlice 88 3 #[(0, .agg #[.slice y158a y158n y158c, .string y159, .bool y160, .int .i64 y161, .int .i64 y162, .int .i64 y163, .int .i64 y164, .slice y165a y165n y165c, .slice y166a y166n y166c, .bool y167]), (1, .agg #[.slice y168a y168n y168c, .string y169, .bool y170, .int .i64 y171, .int .i64 y172, .int .i64 y173, .int .i64 y174, .slice y175a y175n y175c, .slice y176a y176n y176c, .bool y177]), (2, .agg #[.slice y178a y178n y178c, .string y179, .bool y180, .int .i64 y181, .int .i64 y182, .int .i64 y183, .int .i64 y184, .slice y185a y185n y185c, .slice y186a y186n y186c, .bool y187])]) wb L (tag K) := valX_new (fun w => by kernel_rfl) h
theorem bs_97_1 {y188 : Int} {wb : World} {L : Own} {K : Value → World → Own → Prop} (h : NewX wb L (.cells #[.int .u8 y188] 5 (0, 0)) (tag fun b L => K (.slice (some ⟨b, 0, none⟩) 1 1) wb L)) : ValX Tryd.prog (Instr.buildSlice 97 1 #[(0, .int .u8 y188)]) wb L (tag K) := valX_new (fun w => by kernel_rfl) h
theorem bs_97_2 {y189 y190 : Int} {wb : World} {L : Own} {K : Value → World → Own → Prop} (h : NewX wb L (.cells #[.int .u8 y189, .int .u8 y190] 5 (0, 0)) (tag fun b L => K (.slice (some ⟨b, 0, none⟩) 2 2) wb L)) : ValX Tryd.prog (Instr.buildSlice 97 2 #[(0, .int .u8 y189), (1, .int .u8 y190)]) wb L (tag K) := valX_new (fun w => by kernel_rfl) h
theorem bs_97_3 {y191 y192 y193 : Int} {wb : World} {L : Own} {K : Value → World → Own → Prop} (h : NewX wb L (.cells #[.int .u8 y191, .int .u8 y192, .int .u8 y193] 5 (0, 0)) (tag fun b L => K (.slice (some ⟨b, 0, none⟩) 3 3) wb L)) : ValX Tryd.prog (Instr.buildSlice 97 3 #[(0, .int .u8 y191), (1, .int .u8 y192), (2, .int .u8 y193)]) wb L (tag K) := valX_new (fun w => by kernel_rfl) h
theorem en_10 : entersB Tryd.prog 10 = true := entersB_of Tryd.func10 (by kernel_rfl)
theorem en_11 : entersB Tryd.prog 11 = true := entersB_of Tryd.func11 (by kernel_rfl)
theorem en_12 : entersB Tryd.prog 12 = true := entersB_of Tryd.func12 (by kernel_rfl)
theorem en_13 : entersB Tryd.prog 13 = true := entersB_of Tryd.func13 (by kernel_rfl)
theorem en_14 : entersB Tryd.prog 14 = true := entersB_of Tryd.func14 (by kernel_rfl)
theorem en_15 : entersB Tryd.prog 15 = true := entersB_of Tryd.func15 (by kernel_rfl)
theorem en_16 : entersB Tryd.prog 16 = true := entersB_of Tryd.func16 (by kernel_rfl)
theorem en_17 : entersB Tryd.prog 17 = true := entersB_of Tryd.func17 (by kernel_rfl)
theorem en_18 : entersB Tryd.prog 18 = true := entersB_of Tryd.func18 (by kernel_rfl)
theorem en_19 : entersB Tryd.prog 19 = true := entersB_of Tryd.func19 (by kernel_rfl)
theorem en_20 : entersB Tryd.prog 20 = true := entersB_of Tryd.func20 (by kernel_rfl)
theorem en_21 : entersB Tryd.prog 21 = true := entersB_of Tryd.func21 (by kernel_rfl)
theorem en_22 : entersB Tryd.prog 22 = true := entersB_of Tryd.func22 (by kernel_rfl)
theorem en_23 : entersB Tryd.prog 23 = true := entersB_of Tryd.func23 (by kernel_rfl)
theorem en_24 : entersB Tryd.prog 24 = true := entersB_of Tryd.func24 (by kernel_rfl)
theorem en_25 : entersB Tryd.prog 25 = true := entersB_of Tryd.func25 (by kernel_rfl)
theorem en_26 : entersB Tryd.prog 26 = true := entersB_of Tryd.func26 (by kernel_rfl)
theorem en_27 : entersB Tryd.prog 27 = true := entersB_of Tryd.func27 (by kernel_rfl)
theorem en_28 : entersB Tryd.prog 28 = true := entersB_of Tryd.func28 (by kernel_rfl)
theorem en_29 : entersB Tryd.prog 29 = true := entersB_of Tryd.func29 (by kernel_rfl)
theorem en_30 : entersB Tryd.prog 30 = true := entersB_of Tryd.func30 (by kernel_rfl)
theorem en_31 : entersB Tryd.prog 31 = true := entersB_of Tryd.func31 (by kernel_rfl)
theorem en_32 : entersB Tryd.prog 32 = true := entersB_of Tryd.func32 (by kernel_rfl)
theorem en_33 : entersB Tryd.prog 33 = true := entersB_of Tryd.func33 (by kernel_rfl)
theorem en_34 : entersB Tryd.prog 34 = true := entersB_of Tryd.func34 (by kernel_rfl)
theorem en_35 : entersB Tryd.prog 35 = true := entersB_of Tryd.func35 (by kernel_rfl)
theorem en_36 : entersB Tryd.prog 36 = true := entersB_of Tryd.func36 (by kernel_rfl)
theorem en_37 : entersB Tryd.prog 37 = true := entersB_of Tryd.func37 (by kernel_rfl)
theorem en_38 : entersB Tryd.prog 38 = true := entersB_of Tryd.func38 (by kernel_rfl)
theorem en_39 : entersB Tryd.prog 39 = true := entersB_of Tryd.func39 (by kernel_rfl)
theorem en_40 : entersB Tryd.prog 40 = true := entersB_of Tryd.func40 (by kernel_rfl)
theorem en_41 : entersB Tryd.prog 41 = true := entersB_of Tryd.func41 (by kernel_rfl)
theorem en_42 : entersB Tryd.prog 42 = true := entersB_of Tryd.func42 (by kernel_rfl)
theorem en_43 : entersB Tryd.prog 43 = true := entersB_of Tryd.func43 (by kernel_rfl)
theorem en_44 : entersB Tryd.prog 44 = true := entersB_of Tryd.func44 (by kernel_rfl)
theorem en_45 : entersB Tryd.prog 45 = true := entersB_of Tryd.func45 (by kernel_rfl)
theorem en_46 : entersB Tryd.prog 46 = true := entersB_of Tryd.func46 (by kernel_rfl)
theorem en_47 : entersB Tryd.prog 47 = true := entersB_of Tryd.func47 (by kernel_rfl)
theorem en_48 : entersB Tryd.prog 48 = true := entersB_of Tryd.func48 (by kernel_rfl)
theorem en_49 : entersB Tryd.prog 49 = true := entersB_of Tryd.func49 (by kernel_rfl)
theorem en_50 : entersB Tryd.prog 50 = true := entersB_of Tryd.func50 (by kernel_rfl)
theorem en_51 : entersB Tryd.prog 51 = true := entersB_of Tryd.func51 (by kernel_rfl)
theorem en_52 : entersB Tryd.prog 52 = true := entersB_of Tryd.func52 (by kernel_rfl)
theorem en_53 : entersB Tryd.prog 53 = true := entersB_of Tryd.func53 (by kernel_rfl)
theorem en_54 : entersB Tryd.prog 54 = true := entersB_of Tryd.func54 (by kernel_rfl)
theorem en_55 : entersB Tryd.prog 55 = true := entersB_of Tryd.func55 (by kernel_rfl)
theorem en_56 : entersB Tryd.prog 56 = true := entersB_of Tryd.func56 (by kernel_rfl)
theorem en_57 : entersB Tryd.prog 57 = true := entersB_of Tryd.func57 (by kernel_rfl)
theorem en_58 : entersB Tryd.prog 58 = true := entersB_of Tryd.func58 (by kernel_rfl)
theorem en_59 : entersB Tryd.prog 59 = true := entersB_of Tryd.func59 (by kernel_rfl)
theorem en_60 : entersB Tryd.prog 60 = true := entersB_of Tryd.func60 (by kernel_rfl)
theorem en_61 : entersB Tryd.prog 61 = true := entersB_of Tryd.func61 (by kernel_rfl)
theorem en_62 : entersB Tryd.prog 62 = true := entersB_of Tryd.func62 (by kernel_rfl)
theorem en_63 : entersB Tryd.prog 63 = true := entersB_of Tryd.func63 (by kernel_rfl)
theorem en_64 : entersB Tryd.prog 64 = true := entersB_of Tryd.func64 (by kernel_rfl)
theorem en_65 : entersB Tryd.prog 65 = true := entersB_of Tryd.func65 (by kernel_rfl)
theorem en_66 : entersB Tryd.prog 66 = true := entersB_of Tryd.func66 (by kernel_rfl)
theorem en_67 : entersB Tryd.prog 67 = true := entersB_of Tryd.func67 (by kernel_rfl)
theorem en_68 : entersB Tryd.prog 68 = true := entersB_of Tryd.func68 (by kernel_rfl)
theorem en_69 : entersB Tryd.prog 69 = true := entersB_of Tryd.func69 (by kernel_rfl)
theorem en_70 : entersB Tryd.prog 70 = true := entersB_of Tryd.func70 (by kernel_rfl)
theorem en_71 : entersB Tryd.prog 71 = true := entersB_of Tryd.func71 (by kernel_rfl)
theorem en_72 : entersB Tryd.prog 72 = true := entersB_of Tryd.func72 (by kernel_rfl)
theorem en_73 : entersB Tryd.prog 73 = true := entersB_of Tryd.func73 (by kernel_rfl)
theorem en_74 : entersB Tryd.prog 74 = true := entersB_of Tryd.func74 (by kernel_rfl)
theorem en_75 : entersB Tryd.prog 75 = true := entersB_of Tryd.func75 (by kernel_rfl)
theorem en_76 : entersB Tryd.prog 76 = true := entersB_of Tryd.func76 (by kernel_rfl)
theorem en_77 : entersB Tryd.prog 77 = true := entersB_of Tryd.func77 (by kernel_rfl)
theorem en_78 : entersB Tryd.prog 78 = true := entersB_of Tryd.func78 (by kernel_rfl)
theorem en_79 : entersB Tryd.prog 79 = true := entersB_of Tryd.func79 (by kernel_rfl)
theorem en_80 : entersB Tryd.prog 80 = true := entersB_of Tryd.func80 (by kernel_rfl)
theorem en_81 : entersB Tryd.prog 81 = true := entersB_of Tryd.func81 (by kernel_rfl)
theorem en_82 : entersB Tryd.prog 82 = true := entersB_of Tryd.func82 (by kernel_rfl)
theorem en_83 : entersB Tryd.prog 83 = true := entersB_of Tryd.func83 (by kernel_rfl)
theorem en_84 : entersB Tryd.prog 84 = true := entersB_of Tryd.func84 (by kernel_rfl)
theorem en_85 : entersB Tryd.prog 85 = true := entersB_of Tryd.func85 (by kernel_rfl)
theorem en_86 : entersB Tryd.prog 86 = true := entersB_of Tryd.func86 (by kernel_rfl)
theorem en_87 : entersB Tryd.prog 87 = true := entersB_of Tryd.func87 (by kernel_rfl)
theorem en_88 : entersB Tryd.prog 88 = true := entersB_of Tryd.func88 (by kernel_rfl)
theorem en_89 : entersB Tryd.prog 89 = true := entersB_of Tryd.func89 (by kernel_rfl)
theorem en_90 : entersB Tryd.prog 90 = true := entersB_of Tryd.func90 (by kernel_rfl)
theorem en_91 : entersB Tryd.prog 91 = true := entersB_of Tryd.func91 (by kernel_rfl)
theorem en_92 : entersB Tryd.prog 92 = true := entersB_of Tryd.func92 (by kernel_rfl)
theorem en_94 : entersB Tryd.prog 94 = true := entersB_of Tryd.func94 (by kernel_rfl)
theorem en_95 : entersB Tryd.prog 95 = true := entersB_of Tryd.func95 (by kernel_rfl)
theorem en_96 : entersB Tryd.prog 96 = true := entersB_of Tryd.func96 (by kernel_rfl)
theorem en_97 : entersB Tryd.prog 97 = true := entersB_of Tryd.func97 (by kernel_rfl)
theorem en_98 : entersB Tryd.prog 98 = true := entersB_of Tryd.func98 (by kernel_rfl)
theorem en_99 : entersB Tryd.prog 99 = true := entersB_of Tryd.func99 (by kernel_rfl)
theorem en_100 : entersB Tryd.prog 100 = true := entersB_of Tryd.func100 (by kernel_rfl)
theorem en_101 : entersB Tryd.prog 101 = true := entersB_of Tryd.func101 (by kernel_rfl)
theorem en_102 : entersB Tryd.prog 102 = true := entersB_of Tryd.func102 (by kernel_rfl)
theorem en_103 : entersB Tryd.prog 103 = true := entersB_of Tryd.func103 (by kernel_rfl)
theorem en_104 : entersB Tryd.prog 104 = true := entersB_of Tryd.func104 (by kernel_rfl)
theorem en_105 : entersB Tryd.prog 105 = true := entersB_of Tryd.func105 (by kernel_rfl)
theorem en_106 : entersB Tryd.prog 106 = true := entersB_of Tryd.func106 (by kernel_rfl)
theorem en_107 : entersB Tryd.prog 107 = true := entersB_of Tryd.func107 (by kernel_rfl)
theorem en_108 : entersB Tryd.prog 108 = true := entersB_of Tryd.func108 (by kernel_rfl)
theorem en_109 : entersB Tryd.prog 109 = true := entersB_of Tryd.func109 (by kernel_rfl)
theorem en_110 : entersB Tryd.prog 110 = true := entersB_of Tryd.func110 (by kernel_rfl)
theorem en_111 : entersB Tryd.prog 111 = true := entersB_of Tryd.func111 (by kernel_rfl)
theorem en_112 : entersB Tryd.prog 112 = true := entersB_of Tryd.func112 (by kernel_rfl)
theorem en_113 : entersB Tryd.prog 113 = true := entersB_of Tryd.func113 (by kernel_rfl)
theorem en_114 : entersB Tryd.prog 114 = true := entersB_of Tryd.func114 (by kernel_rfl)
theorem en_116 : entersB Tryd.prog 116 = true := entersB_of Tryd.func116 (by kernel_rfl)
theorem en_117 : entersB Tryd.prog 117 = true := entersB_of Tryd.func117 (by kernel_rfl)
theorem en_118 : entersB Tryd.prog 118 = true := entersB_of Tryd.func118 (by kernel_rfl)
theorem en_119 : entersB Tryd.prog 119 = true := entersB_of Tryd.func119 (by kernel_rfl)
theorem en_120 : entersB Tryd.prog 120 = true := entersB_of Tryd.func120 (by kernel_rfl)
theorem en_121 : entersB Tryd.prog 121 = true := entersB_of Tryd.func121 (by kernel_rfl)
theorem en_122 : entersB Tryd.prog 122 = true := entersB_of Tryd.func122 (by kernel_rfl)
theorem en_123 : entersB Tryd.prog 123 = true := entersB_of Tryd.func123 (by kernel_rfl)
theorem en_124 : entersB Tryd.prog 124 = true := entersB_of Tryd.func124 (by kernel_rfl)
theorem en_125 : entersB Tryd.prog 125 = true := entersB_of Tryd.func125 (by kernel_rfl)
theorem en_126 : entersB Tryd.prog 126 = true := entersB_of Tryd.func126 (by kernel_rfl)
theorem en_127 : entersB Tryd.prog 127 = true := entersB_of Tryd.func127 (by kernel_rfl)
theorem en_128 : entersB Tryd.prog 128 = true := entersB_of Tryd.func128 (by kernel_rfl)
theorem en_129 : entersB Tryd.prog 129 = true := entersB_of Tryd.func129 (by kernel_rfl)
theorem en_130 : entersB Tryd.prog 130 = true := entersB_of Tryd.func130 (by kernel_rfl)
theorem en_131 : entersB Tryd.prog 131 = true := entersB_of Tryd.func131 (by kernel_rfl)
theorem en_132 : entersB Tryd.prog 132 = true := entersB_of Tryd.func132 (by kernel_rfl)
theorem en_133 : entersB Tryd.prog 133 = true := entersB_of Tryd.func133 (by kernel_rfl)
theorem en_134 : entersB Tryd.prog 134 = true := entersB_of Tryd.func134 (by kernel_rfl)
end Go.Proofs.YthdejilihaombaaDoor
