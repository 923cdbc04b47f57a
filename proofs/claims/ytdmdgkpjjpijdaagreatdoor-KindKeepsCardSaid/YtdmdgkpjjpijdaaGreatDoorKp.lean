/- Facts on the program of seat YtdmdgkpjjpijdaaGreatDoor, for the walks: written by program (genfacts.py) off the translation's type table. -/
import Derived.Test.YtdmdgkpjjpijdaaGreatDoorProg
import Derived.Test.YtdmdgkpjjpijdaaGreatDoorKg
import Derived.KernelRfl
namespace Go.Proofs.YtdmdgkpjjpijdaaGreatDoor
open Go Go.K
variable {K:Value→Prop}
theorem mixed:Tryz.prog.follows .mixedOrders=true:=by kernel_rfl
@[push_cast] theorem fa_27_0 (b o:Nat):PureX Tryz.prog (Instr.fieldAt 27 (.pointer (some ⟨b,o,none⟩)) 0) (tag K)=K (.pointer (some ⟨b,o,none⟩)):=px (fun w=>by kernel_rfl) K
@[push_cast] theorem fa_27_1 (b o:Nat):PureX Tryz.prog (Instr.fieldAt 27 (.pointer (some ⟨b,o,none⟩)) 1) (tag K)=K (.pointer (some ⟨b,o+1,none⟩)):=px (fun w=>by kernel_rfl) K
@[push_cast] theorem fa_35_0 (b o:Nat):PureX Tryz.prog (Instr.fieldAt 35 (.pointer (some ⟨b,o,none⟩)) 0) (tag K)=K (.pointer (some ⟨b,o,none⟩)):=px (fun w=>by kernel_rfl) K
@[push_cast] theorem fa_35_1 (b o:Nat):PureX Tryz.prog (Instr.fieldAt 35 (.pointer (some ⟨b,o,none⟩)) 1) (tag K)=K (.pointer (some ⟨b,o+1,none⟩)):=px (fun w=>by kernel_rfl) K
@[push_cast] theorem fa_35_2 (b o:Nat):PureX Tryz.prog (Instr.fieldAt 35 (.pointer (some ⟨b,o,none⟩)) 2) (tag K)=K (.pointer (some ⟨b,o+2,none⟩)):=px (fun w=>by kernel_rfl) K
@[push_cast] theorem fa_35_3 (b o:Nat):PureX Tryz.prog (Instr.fieldAt 35 (.pointer (some ⟨b,o,none⟩)) 3) (tag K)=K (.pointer (some ⟨b,o+3,none⟩)):=px (fun w=>by kernel_rfl) K
@[push_cast] theorem fa_35_4 (b o:Nat):PureX Tryz.prog (Instr.fieldAt 35 (.pointer (some ⟨b,o,none⟩)) 4) (tag K)=K (.pointer (some ⟨b,o+4,none⟩)):=px (fun w=>by kernel_rfl) K
@[push_cast] theorem fa_37_0 (b o:Nat):PureX Tryz.prog (Instr.fieldAt 37 (.pointer (some ⟨b,o,none⟩)) 0) (tag K)=K (.pointer (some ⟨b,o,none⟩)):=px (fun w=>by kernel_rfl) K
@[push_cast] theorem fa_37_1 (b o:Nat):PureX Tryz.prog (Instr.fieldAt 37 (.pointer (some ⟨b,o,none⟩)) 1) (tag K)=K (.pointer (some ⟨b,o+1,none⟩)):=px (fun w=>by kernel_rfl) K
@[push_cast] theorem fa_37_2 (b o:Nat):PureX Tryz.prog (Instr.fieldAt 37 (.pointer (some ⟨b,o,none⟩)) 2) (tag K)=K (.pointer (some ⟨b,o+2,none⟩)):=px (fun w=>by kernel_rfl) K
@[push_cast] theorem fa_51_0 (b o:Nat):PureX Tryz.prog (Instr.fieldAt 51 (.pointer (some ⟨b,o,none⟩)) 0) (tag K)=K (.pointer (some ⟨b,o,none⟩)):=px (fun w=>by kernel_rfl) K
@[push_cast] theorem fa_51_1 (b o:Nat):PureX Tryz.prog (Instr.fieldAt 51 (.pointer (some ⟨b,o,none⟩)) 1) (tag K)=K (.pointer (some ⟨b,o+1,none⟩)):=px (fun w=>by kernel_rfl) K
@[push_cast] theorem fa_51_2 (b o:Nat):PureX Tryz.prog (Instr.fieldAt 51 (.pointer (some ⟨b,o,none⟩)) 2) (tag K)=K (.pointer (some ⟨b,o+2,none⟩)):=px (fun w=>by kernel_rfl) K
@[push_cast] theorem fa_69_0 (b o:Nat):PureX Tryz.prog (Instr.fieldAt 69 (.pointer (some ⟨b,o,none⟩)) 0) (tag K)=K (.pointer (some ⟨b,o,none⟩)):=px (fun w=>by kernel_rfl) K
@[push_cast] theorem fa_73_0 (b o:Nat):PureX Tryz.prog (Instr.fieldAt 73 (.pointer (some ⟨b,o,none⟩)) 0) (tag K)=K (.pointer (some ⟨b,o,none⟩)):=px (fun w=>by kernel_rfl) K
@[push_cast] theorem fa_73_1 (b o:Nat):PureX Tryz.prog (Instr.fieldAt 73 (.pointer (some ⟨b,o,none⟩)) 1) (tag K)=K (.pointer (some ⟨b,o+1,none⟩)):=px (fun w=>by kernel_rfl) K
@[push_cast] theorem fa_82_0 (b o:Nat):PureX Tryz.prog (Instr.fieldAt 82 (.pointer (some ⟨b,o,none⟩)) 0) (tag K)=K (.pointer (some ⟨b,o,none⟩)):=px (fun w=>by kernel_rfl) K
@[push_cast] theorem fa_82_1 (b o:Nat):PureX Tryz.prog (Instr.fieldAt 82 (.pointer (some ⟨b,o,none⟩)) 1) (tag K)=K (.pointer (some ⟨b,o+1,none⟩)):=px (fun w=>by kernel_rfl) K
@[push_cast] theorem fa_82_2 (b o:Nat):PureX Tryz.prog (Instr.fieldAt 82 (.pointer (some ⟨b,o,none⟩)) 2) (tag K)=K (.pointer (some ⟨b,o+2,none⟩)):=px (fun w=>by kernel_rfl) K
@[push_cast] theorem fa_82_3 (b o:Nat):PureX Tryz.prog (Instr.fieldAt 82 (.pointer (some ⟨b,o,none⟩)) 3) (tag K)=K (.pointer (some ⟨b,o+3,none⟩)):=px (fun w=>by kernel_rfl) K
@[push_cast] theorem fa_84_0 (b o:Nat):PureX Tryz.prog (Instr.fieldAt 84 (.pointer (some ⟨b,o,none⟩)) 0) (tag K)=K (.pointer (some ⟨b,o,none⟩)):=px (fun w=>by kernel_rfl) K
@[push_cast] theorem fa_84_1 (b o:Nat):PureX Tryz.prog (Instr.fieldAt 84 (.pointer (some ⟨b,o,none⟩)) 1) (tag K)=K (.pointer (some ⟨b,o+1,none⟩)):=px (fun w=>by kernel_rfl) K
@[push_cast] theorem fa_84_3 (b o:Nat):PureX Tryz.prog (Instr.fieldAt 84 (.pointer (some ⟨b,o,none⟩)) 3) (tag K)=K (.pointer (some ⟨b,o+3,none⟩)):=px (fun w=>by kernel_rfl) K
@[push_cast] theorem fa_84_4 (b o:Nat):PureX Tryz.prog (Instr.fieldAt 84 (.pointer (some ⟨b,o,none⟩)) 4) (tag K)=K (.pointer (some ⟨b,o+4,none⟩)):=px (fun w=>by kernel_rfl) K
@[push_cast] theorem fa_90_0 (b o:Nat):PureX Tryz.prog (Instr.fieldAt 90 (.pointer (some ⟨b,o,none⟩)) 0) (tag K)=K (.pointer (some ⟨b,o,none⟩)):=px (fun w=>by kernel_rfl) K
@[push_cast] theorem fa_90_1 (b o:Nat):PureX Tryz.prog (Instr.fieldAt 90 (.pointer (some ⟨b,o,none⟩)) 1) (tag K)=K (.pointer (some ⟨b,o+1,none⟩)):=px (fun w=>by kernel_rfl) K
@[push_cast] theorem fa_93_0 (b o:Nat):PureX Tryz.prog (Instr.fieldAt 93 (.pointer (some ⟨b,o,none⟩)) 0) (tag K)=K (.pointer (some ⟨b,o,none⟩)):=px (fun w=>by kernel_rfl) K
@[push_cast] theorem fa_93_1 (b o:Nat):PureX Tryz.prog (Instr.fieldAt 93 (.pointer (some ⟨b,o,none⟩)) 1) (tag K)=K (.pointer (some ⟨b,o+1,none⟩)):=px (fun w=>by kernel_rfl) K
@[push_cast] theorem fa_105_0 (b o:Nat):PureX Tryz.prog (Instr.fieldAt 105 (.pointer (some ⟨b,o,none⟩)) 0) (tag K)=K (.pointer (some ⟨b,o,none⟩)):=px (fun w=>by kernel_rfl) K
@[push_cast] theorem fa_105_1 (b o:Nat):PureX Tryz.prog (Instr.fieldAt 105 (.pointer (some ⟨b,o,none⟩)) 1) (tag K)=K (.pointer (some ⟨b,o+1,none⟩)):=px (fun w=>by kernel_rfl) K
@[push_cast] theorem fa_105_2 (b o:Nat):PureX Tryz.prog (Instr.fieldAt 105 (.pointer (some ⟨b,o,none⟩)) 2) (tag K)=K (.pointer (some ⟨b,o+2,none⟩)):=px (fun w=>by kernel_rfl) K
@[push_cast] theorem fa_105_3 (b o:Nat):PureX Tryz.prog (Instr.fieldAt 105 (.pointer (some ⟨b,o,none⟩)) 3) (tag K)=K (.pointer (some ⟨b,o+9,none⟩)):=px (fun w=>by kernel_rfl) K
@[push_cast] theorem fa_119_0 (b o:Nat):PureX Tryz.prog (Instr.fieldAt 119 (.pointer (some ⟨b,o,none⟩)) 0) (tag K)=K (.pointer (some ⟨b,o,none⟩)):=px (fun w=>by kernel_rfl) K
@[push_cast] theorem fa_119_1 (b o:Nat):PureX Tryz.prog (Instr.fieldAt 119 (.pointer (some ⟨b,o,none⟩)) 1) (tag K)=K (.pointer (some ⟨b,o+1,none⟩)):=px (fun w=>by kernel_rfl) K
@[push_cast] theorem fa_119_2 (b o:Nat):PureX Tryz.prog (Instr.fieldAt 119 (.pointer (some ⟨b,o,none⟩)) 2) (tag K)=K (.pointer (some ⟨b,o+8,none⟩)):=px (fun w=>by kernel_rfl) K
@[push_cast] theorem fa_119_3 (b o:Nat):PureX Tryz.prog (Instr.fieldAt 119 (.pointer (some ⟨b,o,none⟩)) 3) (tag K)=K (.pointer (some ⟨b,o+9,none⟩)):=px (fun w=>by kernel_rfl) K
@[push_cast] theorem fa_148_0 (b o:Nat):PureX Tryz.prog (Instr.fieldAt 148 (.pointer (some ⟨b,o,none⟩)) 0) (tag K)=K (.pointer (some ⟨b,o,none⟩)):=px (fun w=>by kernel_rfl) K
@[push_cast] theorem fa_148_3 (b o:Nat):PureX Tryz.prog (Instr.fieldAt 148 (.pointer (some ⟨b,o,none⟩)) 3) (tag K)=K (.pointer (some ⟨b,o+3,none⟩)):=px (fun w=>by kernel_rfl) K
@[push_cast] theorem sh_3:shapeOf Tryz.prog 3=some (false,1):=by kernel_rfl
@[push_cast] theorem sz_3:(Tryz.prog.info? 3).map (·.size)=some 1:=by kernel_rfl
instance :Shp Tryz.prog 3 false 1:=⟨sh_3⟩
instance :Siz Tryz.prog 3 1:=⟨sz_3⟩
@[push_cast] theorem sh_4:shapeOf Tryz.prog 4=some (false,1):=by kernel_rfl
@[push_cast] theorem sz_4:(Tryz.prog.info? 4).map (·.size)=some 1:=by kernel_rfl
instance :Shp Tryz.prog 4 false 1:=⟨sh_4⟩
instance :Siz Tryz.prog 4 1:=⟨sz_4⟩
@[push_cast] theorem sh_5:shapeOf Tryz.prog 5=some (false,1):=by kernel_rfl
@[push_cast] theorem sz_5:(Tryz.prog.info? 5).map (·.size)=some 1:=by kernel_rfl
instance :Shp Tryz.prog 5 false 1:=⟨sh_5⟩
instance :Siz Tryz.prog 5 1:=⟨sz_5⟩
@[push_cast] theorem sh_9:shapeOf Tryz.prog 9=some (false,1):=by kernel_rfl
@[push_cast] theorem sz_9:(Tryz.prog.info? 9).map (·.size)=some 1:=by kernel_rfl
instance :Shp Tryz.prog 9 false 1:=⟨sh_9⟩
instance :Siz Tryz.prog 9 1:=⟨sz_9⟩
@[push_cast] theorem sh_24:shapeOf Tryz.prog 24=some (false,1):=by kernel_rfl
@[push_cast] theorem sz_24:(Tryz.prog.info? 24).map (·.size)=some 1:=by kernel_rfl
instance :Shp Tryz.prog 24 false 1:=⟨sh_24⟩
instance :Siz Tryz.prog 24 1:=⟨sz_24⟩
@[push_cast] theorem sh_25:shapeOf Tryz.prog 25=some (false,1):=by kernel_rfl
@[push_cast] theorem sz_25:(Tryz.prog.info? 25).map (·.size)=some 1:=by kernel_rfl
instance :Shp Tryz.prog 25 false 1:=⟨sh_25⟩
instance :Siz Tryz.prog 25 1:=⟨sz_25⟩
@[push_cast] theorem sh_27:shapeOf Tryz.prog 27=some (true,2):=by kernel_rfl
@[push_cast] theorem sz_27:(Tryz.prog.info? 27).map (·.size)=some 2:=by kernel_rfl
instance :Shp Tryz.prog 27 true 2:=⟨sh_27⟩
instance :Siz Tryz.prog 27 2:=⟨sz_27⟩
@[push_cast] theorem sh_28:shapeOf Tryz.prog 28=some (false,1):=by kernel_rfl
@[push_cast] theorem sz_28:(Tryz.prog.info? 28).map (·.size)=some 1:=by kernel_rfl
instance :Shp Tryz.prog 28 false 1:=⟨sh_28⟩
instance :Siz Tryz.prog 28 1:=⟨sz_28⟩
@[push_cast] theorem sh_35:shapeOf Tryz.prog 35=some (true,5):=by kernel_rfl
@[push_cast] theorem sz_35:(Tryz.prog.info? 35).map (·.size)=some 5:=by kernel_rfl
instance :Shp Tryz.prog 35 true 5:=⟨sh_35⟩
instance :Siz Tryz.prog 35 5:=⟨sz_35⟩
@[push_cast] theorem sh_37:shapeOf Tryz.prog 37=some (true,7):=by kernel_rfl
@[push_cast] theorem sz_37:(Tryz.prog.info? 37).map (·.size)=some 7:=by kernel_rfl
instance :Shp Tryz.prog 37 true 7:=⟨sh_37⟩
instance :Siz Tryz.prog 37 7:=⟨sz_37⟩
@[push_cast] theorem sh_49:shapeOf Tryz.prog 49=some (false,1):=by kernel_rfl
@[push_cast] theorem sz_49:(Tryz.prog.info? 49).map (·.size)=some 1:=by kernel_rfl
instance :Shp Tryz.prog 49 false 1:=⟨sh_49⟩
instance :Siz Tryz.prog 49 1:=⟨sz_49⟩
@[push_cast] theorem sh_51:shapeOf Tryz.prog 51=some (true,3):=by kernel_rfl
@[push_cast] theorem sz_51:(Tryz.prog.info? 51).map (·.size)=some 3:=by kernel_rfl
instance :Shp Tryz.prog 51 true 3:=⟨sh_51⟩
instance :Siz Tryz.prog 51 3:=⟨sz_51⟩
@[push_cast] theorem sh_69:shapeOf Tryz.prog 69=some (true,1):=by kernel_rfl
@[push_cast] theorem sz_69:(Tryz.prog.info? 69).map (·.size)=some 1:=by kernel_rfl
instance :Shp Tryz.prog 69 true 1:=⟨sh_69⟩
instance :Siz Tryz.prog 69 1:=⟨sz_69⟩
@[push_cast] theorem sh_73:shapeOf Tryz.prog 73=some (true,2):=by kernel_rfl
@[push_cast] theorem sz_73:(Tryz.prog.info? 73).map (·.size)=some 2:=by kernel_rfl
instance :Shp Tryz.prog 73 true 2:=⟨sh_73⟩
instance :Siz Tryz.prog 73 2:=⟨sz_73⟩
@[push_cast] theorem sh_74:shapeOf Tryz.prog 74=some (false,1):=by kernel_rfl
@[push_cast] theorem sz_74:(Tryz.prog.info? 74).map (·.size)=some 1:=by kernel_rfl
instance :Shp Tryz.prog 74 false 1:=⟨sh_74⟩
instance :Siz Tryz.prog 74 1:=⟨sz_74⟩
@[push_cast] theorem sh_82:shapeOf Tryz.prog 82=some (true,4):=by kernel_rfl
@[push_cast] theorem sz_82:(Tryz.prog.info? 82).map (·.size)=some 4:=by kernel_rfl
instance :Shp Tryz.prog 82 true 4:=⟨sh_82⟩
instance :Siz Tryz.prog 82 4:=⟨sz_82⟩
@[push_cast] theorem sh_84:shapeOf Tryz.prog 84=some (true,5):=by kernel_rfl
@[push_cast] theorem sz_84:(Tryz.prog.info? 84).map (·.size)=some 5:=by kernel_rfl
instance :Shp Tryz.prog 84 true 5:=⟨sh_84⟩
instance :Siz Tryz.prog 84 5:=⟨sz_84⟩
@[push_cast] theorem sh_90:shapeOf Tryz.prog 90=some (true,2):=by kernel_rfl
@[push_cast] theorem sz_90:(Tryz.prog.info? 90).map (·.size)=some 2:=by kernel_rfl
instance :Shp Tryz.prog 90 true 2:=⟨sh_90⟩
instance :Siz Tryz.prog 90 2:=⟨sz_90⟩
@[push_cast] theorem sh_93:shapeOf Tryz.prog 93=some (true,2):=by kernel_rfl
@[push_cast] theorem sz_93:(Tryz.prog.info? 93).map (·.size)=some 2:=by kernel_rfl
instance :Shp Tryz.prog 93 true 2:=⟨sh_93⟩
instance :Siz Tryz.prog 93 2:=⟨sz_93⟩
@[push_cast] theorem sh_100:shapeOf Tryz.prog 100=some (false,1):=by kernel_rfl
@[push_cast] theorem sz_100:(Tryz.prog.info? 100).map (·.size)=some 1:=by kernel_rfl
instance :Shp Tryz.prog 100 false 1:=⟨sh_100⟩
instance :Siz Tryz.prog 100 1:=⟨sz_100⟩
@[push_cast] theorem sh_105:shapeOf Tryz.prog 105=some (true,10):=by kernel_rfl
@[push_cast] theorem sz_105:(Tryz.prog.info? 105).map (·.size)=some 10:=by kernel_rfl
instance :Shp Tryz.prog 105 true 10:=⟨sh_105⟩
instance :Siz Tryz.prog 105 10:=⟨sz_105⟩
@[push_cast] theorem sh_112:shapeOf Tryz.prog 112=some (false,1):=by kernel_rfl
@[push_cast] theorem sz_112:(Tryz.prog.info? 112).map (·.size)=some 1:=by kernel_rfl
instance :Shp Tryz.prog 112 false 1:=⟨sh_112⟩
instance :Siz Tryz.prog 112 1:=⟨sz_112⟩
@[push_cast] theorem sh_119:shapeOf Tryz.prog 119=some (true,10):=by kernel_rfl
@[push_cast] theorem sz_119:(Tryz.prog.info? 119).map (·.size)=some 10:=by kernel_rfl
instance :Shp Tryz.prog 119 true 10:=⟨sh_119⟩
instance :Siz Tryz.prog 119 10:=⟨sz_119⟩
@[push_cast] theorem sh_133:shapeOf Tryz.prog 133=some (false,1):=by kernel_rfl
@[push_cast] theorem sz_133:(Tryz.prog.info? 133).map (·.size)=some 1:=by kernel_rfl
instance :Shp Tryz.prog 133 false 1:=⟨sh_133⟩
instance :Siz Tryz.prog 133 1:=⟨sz_133⟩
@[push_cast] theorem sh_134:shapeOf Tryz.prog 134=some (false,1):=by kernel_rfl
@[push_cast] theorem sz_134:(Tryz.prog.info? 134).map (·.size)=some 1:=by kernel_rfl
instance :Shp Tryz.prog 134 false 1:=⟨sh_134⟩
instance :Siz Tryz.prog 134 1:=⟨sz_134⟩
@[push_cast] theorem sh_149:shapeOf Tryz.prog 149=some (true,84):=by kernel_rfl
@[push_cast] theorem sz_149:(Tryz.prog.info? 149).map (·.size)=some 84:=by kernel_rfl
instance :Shp Tryz.prog 149 true 84:=⟨sh_149⟩
instance :Siz Tryz.prog 149 84:=⟨sz_149⟩
@[push_cast] theorem sh_155:shapeOf Tryz.prog 155=some (false,1):=by kernel_rfl
@[push_cast] theorem sz_155:(Tryz.prog.info? 155).map (·.size)=some 1:=by kernel_rfl
instance :Shp Tryz.prog 155 false 1:=⟨sh_155⟩
instance :Siz Tryz.prog 155 1:=⟨sz_155⟩
@[push_cast] theorem sh_159:shapeOf Tryz.prog 159=some (false,1):=by kernel_rfl
@[push_cast] theorem sz_159:(Tryz.prog.info? 159).map (·.size)=some 1:=by kernel_rfl
instance :Shp Tryz.prog 159 false 1:=⟨sh_159⟩
instance :Siz Tryz.prog 159 1:=⟨sz_159⟩
@[push_cast] theorem sh_168:shapeOf Tryz.prog 168=some (true,24):=by kernel_rfl
@[push_cast] theorem sz_168:(Tryz.prog.info? 168).map (·.size)=some 24:=by kernel_rfl
instance :Shp Tryz.prog 168 true 24:=⟨sh_168⟩
instance :Siz Tryz.prog 168 24:=⟨sz_168⟩
@[push_cast] theorem sh_177:shapeOf Tryz.prog 177=some (true,3):=by kernel_rfl
@[push_cast] theorem sz_177:(Tryz.prog.info? 177).map (·.size)=some 3:=by kernel_rfl
instance :Shp Tryz.prog 177 true 3:=⟨sh_177⟩
instance :Siz Tryz.prog 177 3:=⟨sz_177⟩
@[push_cast] theorem sh_181:shapeOf Tryz.prog 181=some (true,20):=by kernel_rfl
@[push_cast] theorem sz_181:(Tryz.prog.info? 181).map (·.size)=some 20:=by kernel_rfl
instance :Shp Tryz.prog 181 true 20:=⟨sh_181⟩
instance :Siz Tryz.prog 181 20:=⟨sz_181⟩
@[push_cast] theorem sh_183:shapeOf Tryz.prog 183=some (true,65):=by kernel_rfl
@[push_cast] theorem sz_183:(Tryz.prog.info? 183).map (·.size)=some 65:=by kernel_rfl
instance :Shp Tryz.prog 183 true 65:=⟨sh_183⟩
instance :Siz Tryz.prog 183 65:=⟨sz_183⟩
@[push_cast] theorem sh_189:shapeOf Tryz.prog 189=some (true,1):=by kernel_rfl
@[push_cast] theorem sz_189:(Tryz.prog.info? 189).map (·.size)=some 1:=by kernel_rfl
instance :Shp Tryz.prog 189 true 1:=⟨sh_189⟩
instance :Siz Tryz.prog 189 1:=⟨sz_189⟩
@[push_cast] theorem sh_191:shapeOf Tryz.prog 191=some (true,32):=by kernel_rfl
@[push_cast] theorem sz_191:(Tryz.prog.info? 191).map (·.size)=some 32:=by kernel_rfl
instance :Shp Tryz.prog 191 true 32:=⟨sh_191⟩
instance :Siz Tryz.prog 191 32:=⟨sz_191⟩
@[push_cast] theorem sh_192:shapeOf Tryz.prog 192=some (true,64):=by kernel_rfl
@[push_cast] theorem sz_192:(Tryz.prog.info? 192).map (·.size)=some 64:=by kernel_rfl
instance :Shp Tryz.prog 192 true 64:=⟨sh_192⟩
instance :Siz Tryz.prog 192 64:=⟨sz_192⟩
@[push_cast] theorem al_3 (wb:World) (L:Own) (K:Value→Own→Prop):AllocX Tryz.prog 3 wb L (tag K)=NewX wb L (.cells #[.int .i64 0] 3 (0,0)) (tag fun b L=>K (.pointer (some ⟨b,0,none⟩)) L):=allocX_eq (z:=.int .i64 0) (by kernel_rfl) wb L K
@[push_cast] theorem al_24 (wb:World) (L:Own) (K:Value→Own→Prop):AllocX Tryz.prog 24 wb L (tag K)=NewX wb L (.cells #[.slice none 0 0] 24 (0,0)) (tag fun b L=>K (.pointer (some ⟨b,0,none⟩)) L):=allocX_eq (z:=.slice none 0 0) (by kernel_rfl) wb L K
@[push_cast] theorem al_27 (wb:World) (L:Own) (K:Value→Own→Prop):AllocX Tryz.prog 27 wb L (tag K)=NewX wb L (.cells #[.slice none 0 0,.slice none 0 0] 27 (0,0)) (tag fun b L=>K (.pointer (some ⟨b,0,none⟩)) L):=allocX_eq (z:=.agg #[.slice none 0 0,.slice none 0 0]) (by kernel_rfl) wb L K
@[push_cast] theorem al_28 (wb:World) (L:Own) (K:Value→Own→Prop):AllocX Tryz.prog 28 wb L (tag K)=NewX wb L (.cells #[.int .i64 0] 28 (0,0)) (tag fun b L=>K (.pointer (some ⟨b,0,none⟩)) L):=allocX_eq (z:=.int .i64 0) (by kernel_rfl) wb L K
@[push_cast] theorem al_35 (wb:World) (L:Own) (K:Value→Own→Prop):AllocX Tryz.prog 35 wb L (tag K)=NewX wb L (.cells #[.int .i64 0,.int .i64 0,.int .i64 0,.int .i64 0,.slice none 0 0] 35 (0,0)) (tag fun b L=>K (.pointer (some ⟨b,0,none⟩)) L):=allocX_eq (z:=.agg #[.int .i64 0,.int .i64 0,.int .i64 0,.int .i64 0,.slice none 0 0]) (by kernel_rfl) wb L K
@[push_cast] theorem al_37 (wb:World) (L:Own) (K:Value→Own→Prop):AllocX Tryz.prog 37 wb L (tag K)=NewX wb L (.cells #[.string ⟨#[]⟩,.bool false,.int .i64 0,.int .i64 0,.int .i64 0,.int .i64 0,.slice none 0 0] 37 (0,0)) (tag fun b L=>K (.pointer (some ⟨b,0,none⟩)) L):=allocX_eq (z:=.agg #[.string ⟨#[]⟩,.bool false,.int .i64 0,.int .i64 0,.int .i64 0,.int .i64 0,.slice none 0 0]) (by kernel_rfl) wb L K
@[push_cast] theorem al_51 (wb:World) (L:Own) (K:Value→Own→Prop):AllocX Tryz.prog 51 wb L (tag K)=NewX wb L (.cells #[.int .i64 0,.slice none 0 0,.int .i64 0] 51 (0,0)) (tag fun b L=>K (.pointer (some ⟨b,0,none⟩)) L):=allocX_eq (z:=.agg #[.int .i64 0,.slice none 0 0,.int .i64 0]) (by kernel_rfl) wb L K
@[push_cast] theorem al_69 (wb:World) (L:Own) (K:Value→Own→Prop):AllocX Tryz.prog 69 wb L (tag K)=NewX wb L (.cells #[.int .i64 0] 69 (0,0)) (tag fun b L=>K (.pointer (some ⟨b,0,none⟩)) L):=allocX_eq (z:=.agg #[.int .i64 0]) (by kernel_rfl) wb L K
@[push_cast] theorem al_84 (wb:World) (L:Own) (K:Value→Own→Prop):AllocX Tryz.prog 84 wb L (tag K)=NewX wb L (.cells #[.int .i64 0,.string ⟨#[]⟩,.int .i64 0,.int .i64 0,.int .i64 0] 84 (0,0)) (tag fun b L=>K (.pointer (some ⟨b,0,none⟩)) L):=allocX_eq (z:=.agg #[.int .i64 0,.string ⟨#[]⟩,.int .i64 0,.int .i64 0,.int .i64 0]) (by kernel_rfl) wb L K
@[push_cast] theorem al_90 (wb:World) (L:Own) (K:Value→Own→Prop):AllocX Tryz.prog 90 wb L (tag K)=NewX wb L (.cells #[.string ⟨#[]⟩,.string ⟨#[]⟩] 90 (0,0)) (tag fun b L=>K (.pointer (some ⟨b,0,none⟩)) L):=allocX_eq (z:=.agg #[.string ⟨#[]⟩,.string ⟨#[]⟩]) (by kernel_rfl) wb L K
@[push_cast] theorem al_93 (wb:World) (L:Own) (K:Value→Own→Prop):AllocX Tryz.prog 93 wb L (tag K)=NewX wb L (.cells #[.int .i64 0,.slice none 0 0] 93 (0,0)) (tag fun b L=>K (.pointer (some ⟨b,0,none⟩)) L):=allocX_eq (z:=.agg #[.int .i64 0,.slice none 0 0]) (by kernel_rfl) wb L K
@[push_cast] theorem al_100 (wb:World) (L:Own) (K:Value→Own→Prop):AllocX Tryz.prog 100 wb L (tag K)=NewX wb L (.cells #[.map none] 100 (0,0)) (tag fun b L=>K (.pointer (some ⟨b,0,none⟩)) L):=allocX_eq (z:=.map none) (by kernel_rfl) wb L K
@[push_cast] theorem al_105 (wb:World) (L:Own) (K:Value→Own→Prop):AllocX Tryz.prog 105 wb L (tag K)=NewX wb L (.cells #[.slice none 0 0,.slice none 0 0,.string ⟨#[]⟩,.bool false,.int .i64 0,.int .i64 0,.int .i64 0,.int .i64 0,.slice none 0 0,.bool false] 105 (0,0)) (tag fun b L=>K (.pointer (some ⟨b,0,none⟩)) L):=allocX_eq (z:=.agg #[.slice none 0 0,.slice none 0 0,.string ⟨#[]⟩,.bool false,.int .i64 0,.int .i64 0,.int .i64 0,.int .i64 0,.slice none 0 0,.bool false]) (by kernel_rfl) wb L K
@[push_cast] theorem al_119 (wb:World) (L:Own) (K:Value→Own→Prop):AllocX Tryz.prog 119 wb L (tag K)=NewX wb L (.cells #[.slice none 0 0,.string ⟨#[]⟩,.bool false,.int .i64 0,.int .i64 0,.int .i64 0,.int .i64 0,.slice none 0 0,.slice none 0 0,.bool false] 119 (0,0)) (tag fun b L=>K (.pointer (some ⟨b,0,none⟩)) L):=allocX_eq (z:=.agg #[.slice none 0 0,.string ⟨#[]⟩,.bool false,.int .i64 0,.int .i64 0,.int .i64 0,.int .i64 0,.slice none 0 0,.slice none 0 0,.bool false]) (by kernel_rfl) wb L K
@[push_cast] theorem al_134 (wb:World) (L:Own) (K:Value→Own→Prop):AllocX Tryz.prog 134 wb L (tag K)=NewX wb L (.cells #[.nilFunc] 134 (0,0)) (tag fun b L=>K (.pointer (some ⟨b,0,none⟩)) L):=allocX_eq (z:=.nilFunc) (by kernel_rfl) wb L K
theorem un_24:Tryz.prog.underlying 24=some (.slice 37):=by kernel_rfl
theorem ez_24:(Tryz.prog.info? 37).map (·.size)=some 7:=by kernel_rfl
@[push_cast] theorem ix_24 (b off n c:Nat) (k:IntKind) (i:Int) (h0:0≤i) (h1:i < n):PureX Tryz.prog (Instr.indexAt 24 (.slice (some ⟨b,off,none⟩) n c) (.int k i)) (tag K)=K (.pointer (some ⟨b,off+i.toNat * 7,none⟩)):=idxS b off n c k un_24 ez_24 i h0 h1
@[push_cast] theorem sHi_24 (b off n c:Nat) (k:IntKind) (i:Int) (h0:0≤i) (h1:i≤c):PureX Tryz.prog (Instr.sliceAt 24 (.slice (some ⟨b,off,none⟩) n c) none (some (.int k i)) none) (tag K)=K (.slice (some ⟨b,off,none⟩) i.toNat c):=slHi n c k un_24 ez_24 i _ (fun x h=>by cases h; rfl) h0 h1
@[push_cast] theorem sHiMax_24 (n c:Nat) (a:Option Addr) (k:IntKind) (i j:Int) (h0:0≤i) (h1:i≤j) (h2:j≤c):PureX Tryz.prog (Instr.sliceAt 24 (.slice a n c) none (some (.int k i)) (some (.int k j))) (tag K)=K (.slice a i.toNat j.toNat):=slHiMax n c k un_24 ez_24 i j a h0 h1 h2
theorem un_25:Tryz.prog.underlying 25=some (.slice 90):=by kernel_rfl
theorem ez_25:(Tryz.prog.info? 90).map (·.size)=some 2:=by kernel_rfl
@[push_cast] theorem ix_25 (b off n c:Nat) (k:IntKind) (i:Int) (h0:0≤i) (h1:i < n):PureX Tryz.prog (Instr.indexAt 25 (.slice (some ⟨b,off,none⟩) n c) (.int k i)) (tag K)=K (.pointer (some ⟨b,off+i.toNat * 2,none⟩)):=idxS b off n c k un_25 ez_25 i h0 h1
theorem un_49:Tryz.prog.underlying 49=some (.slice 3):=by kernel_rfl
theorem ez_49:(Tryz.prog.info? 3).map (·.size)=some 1:=by kernel_rfl
@[push_cast] theorem ix_49 (b off n c:Nat) (k:IntKind) (i:Int) (h0:0≤i) (h1:i < n):PureX Tryz.prog (Instr.indexAt 49 (.slice (some ⟨b,off,none⟩) n c) (.int k i)) (tag K)=K (.pointer (some ⟨b,off+i.toNat * 1,none⟩)):=idxS b off n c k un_49 ez_49 i h0 h1
@[push_cast] theorem sLo_49 (b off n c:Nat) (k:IntKind) (i:Int) (h0:0≤i) (h1:i≤n):PureX Tryz.prog (Instr.sliceAt 49 (.slice (some ⟨b,off,none⟩) n c) (some (.int k i)) none none) (tag K)=K (.slice (some ⟨b,if c=i.toNat then off else off+i.toNat * 1,none⟩) (n - i.toNat) (c - i.toNat)):=slLo b off n c k un_49 ez_49 i h0 h1
theorem un_74:Tryz.prog.underlying 74=some (.slice 93):=by kernel_rfl
theorem ez_74:(Tryz.prog.info? 93).map (·.size)=some 2:=by kernel_rfl
@[push_cast] theorem ix_74 (b off n c:Nat) (k:IntKind) (i:Int) (h0:0≤i) (h1:i < n):PureX Tryz.prog (Instr.indexAt 74 (.slice (some ⟨b,off,none⟩) n c) (.int k i)) (tag K)=K (.pointer (some ⟨b,off+i.toNat * 2,none⟩)):=idxS b off n c k un_74 ez_74 i h0 h1
theorem un_108:Tryz.prog.underlying 108=some (.slice 5):=by kernel_rfl
theorem un_115:Tryz.prog.underlying 115=some (.slice 119):=by kernel_rfl
theorem ez_115:(Tryz.prog.info? 119).map (·.size)=some 10:=by kernel_rfl
@[push_cast] theorem ix_115 (b off n c:Nat) (k:IntKind) (i:Int) (h0:0≤i) (h1:i < n):PureX Tryz.prog (Instr.indexAt 115 (.slice (some ⟨b,off,none⟩) n c) (.int k i)) (tag K)=K (.pointer (some ⟨b,off+i.toNat * 10,none⟩)):=idxS b off n c k un_115 ez_115 i h0 h1
@[push_cast] theorem sHi_115 (b off n c:Nat) (k:IntKind) (i:Int) (h0:0≤i) (h1:i≤c):PureX Tryz.prog (Instr.sliceAt 115 (.slice (some ⟨b,off,none⟩) n c) none (some (.int k i)) none) (tag K)=K (.slice (some ⟨b,off,none⟩) i.toNat c):=slHi n c k un_115 ez_115 i _ (fun x h=>by cases h; rfl) h0 h1
theorem ua_149:Tryz.prog.underlying 149=some (.array 21 148):=by kernel_rfl
theorem ez_149:(Tryz.prog.info? 148).map (·.size)=some 4:=by kernel_rfl
@[push_cast] theorem ix_149 (b off:Nat) (k:IntKind) (i:Int) (h0:0≤i) (h1:i < (21:Nat)):PureX Tryz.prog (Instr.indexAt 149 (.pointer (some ⟨b,off,none⟩)) (.int k i)) (tag K)=K (.pointer (some ⟨b,off+i.toNat * 4,none⟩)):=idxA b off k ua_149 ez_149 i h0 h1
@[push_cast] theorem ln_9 (ty:TypeId) (l:List UInt8):PureX Tryz.prog (Builtin.len_ #[9] ty #[.string ⟨l.toArray⟩]) (tag K)=K (.int .i64 l.length):=px (fun w=>by kernel_rfl) K
@[push_cast] theorem ln_24 (ty:TypeId) (a:Option Addr) (n c:Nat):PureX Tryz.prog (Builtin.len_ #[24] ty #[.slice a n c]) (tag K)=K (.int .i64 n):=px (fun w=>by kernel_rfl) K
@[push_cast] theorem ln_25 (ty:TypeId) (a:Option Addr) (n c:Nat):PureX Tryz.prog (Builtin.len_ #[25] ty #[.slice a n c]) (tag K)=K (.int .i64 n):=px (fun w=>by kernel_rfl) K
@[push_cast] theorem ln_49 (ty:TypeId) (a:Option Addr) (n c:Nat):PureX Tryz.prog (Builtin.len_ #[49] ty #[.slice a n c]) (tag K)=K (.int .i64 n):=px (fun w=>by kernel_rfl) K
@[push_cast] theorem ln_115 (ty:TypeId) (a:Option Addr) (n c:Nat):PureX Tryz.prog (Builtin.len_ #[115] ty #[.slice a n c]) (tag K)=K (.int .i64 n):=px (fun w=>by kernel_rfl) K
theorem us_9:Tryz.prog.underlying 9=some .string:=by kernel_rfl
@[push_cast] theorem is_9 (l:List UInt8) (k:IntKind) (i:Int) (h0:0≤i) (h1:i < l.length):PureX Tryz.prog (Instr.index 9 (.string ⟨l.toArray⟩) (.int k i)) (tag K)=K (.int .u8 (l.getD i.toNat 0).toNat):=idxStr l k us_9 i h0 h1
@[push_cast] theorem ssLoHi_9 (l:List UInt8) (k:IntKind) (i j:Int) (h0:0≤i) (h1:i≤j) (h2:j≤l.length):PureX Tryz.prog (Instr.sliceAt 9 (.string ⟨l.toArray⟩) (some (.int k i)) (some (.int k j)) none) (tag K)=K (str ((l.take j.toNat).drop i.toNat)):=slStr l k us_9 i j h0 h1 h2
@[push_cast] theorem ssLo_9 (l:List UInt8) (k:IntKind) (i:Int) (h0:0≤i) (h1:i≤l.length):PureX Tryz.prog (Instr.sliceAt 9 (.string ⟨l.toArray⟩) (some (.int k i)) none none) (tag K)=K (str (l.drop i.toNat)):=slStrLo l k us_9 i h0 h1
theorem ub_4:Tryz.prog.underlying 4=some .bool:=by kernel_rfl
@[push_cast] theorem be_4 (x y:Operand) (a b:Bool):PureX Tryz.prog (binV .eql 4 x y (.bool a) (.bool b)) (tag K)=K (.bool (a == b)):=bin_bool_eql x y ub_4 a b
@[push_cast] theorem bu_27_  : PureX Tryz.prog (Instr.build 27 #[]) (tag K)=K (.agg #[.slice none 0 0,.slice none 0 0]):=px (fun w=>by kernel_rfl) K
@[push_cast] theorem bu_27_0 (x1a:Option Addr) (x1n x1c:Nat):PureX Tryz.prog (Instr.build 27 #[(0,.slice x1a x1n x1c)]) (tag K)=K (.agg #[.slice x1a x1n x1c,.slice none 0 0]):=px (fun w=>by kernel_rfl) K
@[push_cast] theorem bu_27_0_1 (x2a x3a:Option Addr) (x2n x2c x3n x3c:Nat):PureX Tryz.prog (Instr.build 27 #[(0,.slice x2a x2n x2c),(1,.slice x3a x3n x3c)]) (tag K)=K (.agg #[.slice x2a x2n x2c,.slice x3a x3n x3c]):=px (fun w=>by kernel_rfl) K
@[push_cast] theorem bu_35_0 (x4:Int):PureX Tryz.prog (Instr.build 35 #[(0,.int .i64 x4)]) (tag K)=K (.agg #[.int .i64 x4,.int .i64 0,.int .i64 0,.int .i64 0,.slice none 0 0]):=px (fun w=>by kernel_rfl) K
@[push_cast] theorem bu_35_0_1_4 (x5 x6:Int) (x7a:Option Addr) (x7n x7c:Nat):PureX Tryz.prog (Instr.build 35 #[(0,.int .i64 x5),(1,.int .i64 x6),(4,.slice x7a x7n x7c)]) (tag K)=K (.agg #[.int .i64 x5,.int .i64 x6,.int .i64 0,.int .i64 0,.slice x7a x7n x7c]):=px (fun w=>by kernel_rfl) K
@[push_cast] theorem bu_35_0_4 (x8:Int) (x9a:Option Addr) (x9n x9c:Nat):PureX Tryz.prog (Instr.build 35 #[(0,.int .i64 x8),(4,.slice x9a x9n x9c)]) (tag K)=K (.agg #[.int .i64 x8,.int .i64 0,.int .i64 0,.int .i64 0,.slice x9a x9n x9c]):=px (fun w=>by kernel_rfl) K
@[push_cast] theorem bu_35_4 (x10a:Option Addr) (x10n x10c:Nat):PureX Tryz.prog (Instr.build 35 #[(4,.slice x10a x10n x10c)]) (tag K)=K (.agg #[.int .i64 0,.int .i64 0,.int .i64 0,.int .i64 0,.slice x10a x10n x10c]):=px (fun w=>by kernel_rfl) K
@[push_cast] theorem bu_37_  : PureX Tryz.prog (Instr.build 37 #[]) (tag K)=K (.agg #[.string ⟨#[]⟩,.bool false,.int .i64 0,.int .i64 0,.int .i64 0,.int .i64 0,.slice none 0 0]):=px (fun w=>by kernel_rfl) K
@[push_cast] theorem bu_37_0 (x11:ByteArray):PureX Tryz.prog (Instr.build 37 #[(0,.string x11)]) (tag K)=K (.agg #[.string x11,.bool false,.int .i64 0,.int .i64 0,.int .i64 0,.int .i64 0,.slice none 0 0]):=px (fun w=>by kernel_rfl) K
@[push_cast] theorem bu_37_0_1_2 (x12:ByteArray) (x13:Bool) (x14 x15 x16 x17:Int) (x18a:Option Addr) (x18n x18c:Nat):PureX Tryz.prog (Instr.build 37 #[(0,.string x12),(1,.bool x13),(2,.agg #[.int .i64 x14,.int .i64 x15,.int .i64 x16,.int .i64 x17,.slice x18a x18n x18c])]) (tag K)=K (.agg #[.string x12,.bool x13,.int .i64 x14,.int .i64 x15,.int .i64 x16,.int .i64 x17,.slice x18a x18n x18c]):=px (fun w=>by kernel_rfl) K
@[push_cast] theorem bu_37_0_2 (x19:ByteArray) (x20 x21 x22 x23:Int) (x24a:Option Addr) (x24n x24c:Nat):PureX Tryz.prog (Instr.build 37 #[(0,.string x19),(2,.agg #[.int .i64 x20,.int .i64 x21,.int .i64 x22,.int .i64 x23,.slice x24a x24n x24c])]) (tag K)=K (.agg #[.string x19,.bool false,.int .i64 x20,.int .i64 x21,.int .i64 x22,.int .i64 x23,.slice x24a x24n x24c]):=px (fun w=>by kernel_rfl) K
@[push_cast] theorem bu_37_0_2_1 (x25:ByteArray) (x26 x27 x28 x29:Int) (x30a:Option Addr) (x30n x30c:Nat) (x31:Bool):PureX Tryz.prog (Instr.build 37 #[(0,.string x25),(2,.agg #[.int .i64 x26,.int .i64 x27,.int .i64 x28,.int .i64 x29,.slice x30a x30n x30c]),(1,.bool x31)]) (tag K)=K (.agg #[.string x25,.bool x31,.int .i64 x26,.int .i64 x27,.int .i64 x28,.int .i64 x29,.slice x30a x30n x30c]):=px (fun w=>by kernel_rfl) K
@[push_cast] theorem bu_37_2 (x32 x33 x34 x35:Int) (x36a:Option Addr) (x36n x36c:Nat):PureX Tryz.prog (Instr.build 37 #[(2,.agg #[.int .i64 x32,.int .i64 x33,.int .i64 x34,.int .i64 x35,.slice x36a x36n x36c])]) (tag K)=K (.agg #[.string ⟨#[]⟩,.bool false,.int .i64 x32,.int .i64 x33,.int .i64 x34,.int .i64 x35,.slice x36a x36n x36c]):=px (fun w=>by kernel_rfl) K
@[push_cast] theorem bu_51_  : PureX Tryz.prog (Instr.build 51 #[]) (tag K)=K (.agg #[.int .i64 0,.slice none 0 0,.int .i64 0]):=px (fun w=>by kernel_rfl) K
@[push_cast] theorem bu_51_0_1 (x37:Int) (x38a:Option Addr) (x38n x38c:Nat):PureX Tryz.prog (Instr.build 51 #[(0,.int .i64 x37),(1,.slice x38a x38n x38c)]) (tag K)=K (.agg #[.int .i64 x37,.slice x38a x38n x38c,.int .i64 0]):=px (fun w=>by kernel_rfl) K
@[push_cast] theorem bu_51_0_2 (x39 x40:Int):PureX Tryz.prog (Instr.build 51 #[(0,.int .i64 x39),(2,.int .i64 x40)]) (tag K)=K (.agg #[.int .i64 x39,.slice none 0 0,.int .i64 x40]):=px (fun w=>by kernel_rfl) K
@[push_cast] theorem bu_69_0 (x41:Int):PureX Tryz.prog (Instr.build 69 #[(0,.int .i64 x41)]) (tag K)=K (.agg #[.int .i64 x41]):=px (fun w=>by kernel_rfl) K
@[push_cast] theorem bu_73_0 (x42:ByteArray):PureX Tryz.prog (Instr.build 73 #[(0,.string x42)]) (tag K)=K (.agg #[.string x42,.int .i64 0]):=px (fun w=>by kernel_rfl) K
@[push_cast] theorem bu_82_0_2 (x43:ByteArray) (x44:Int):PureX Tryz.prog (Instr.build 82 #[(0,.string x43),(2,.int .i64 x44)]) (tag K)=K (.agg #[.string x43,.int .i64 0,.int .i64 x44,.slice none 0 0]):=px (fun w=>by kernel_rfl) K
@[push_cast] theorem bu_84_0_1_2_3_4 (x45 x47 x48 x49:Int) (x46:ByteArray):PureX Tryz.prog (Instr.build 84 #[(0,.int .i64 x45),(1,.string x46),(2,.int .i64 x47),(3,.int .i64 x48),(4,.int .i64 x49)]) (tag K)=K (.agg #[.int .i64 x45,.string x46,.int .i64 x47,.int .i64 x48,.int .i64 x49]):=px (fun w=>by kernel_rfl) K
@[push_cast] theorem bu_84_0_2_3_4 (x50 x51 x52 x53:Int):PureX Tryz.prog (Instr.build 84 #[(0,.int .i64 x50),(2,.int .i64 x51),(3,.int .i64 x52),(4,.int .i64 x53)]) (tag K)=K (.agg #[.int .i64 x50,.string ⟨#[]⟩,.int .i64 x51,.int .i64 x52,.int .i64 x53]):=px (fun w=>by kernel_rfl) K
@[push_cast] theorem bu_84_0_2_4 (x54 x55 x56:Int):PureX Tryz.prog (Instr.build 84 #[(0,.int .i64 x54),(2,.int .i64 x55),(4,.int .i64 x56)]) (tag K)=K (.agg #[.int .i64 x54,.string ⟨#[]⟩,.int .i64 x55,.int .i64 0,.int .i64 x56]):=px (fun w=>by kernel_rfl) K
@[push_cast] theorem bu_90_0 (x57:ByteArray):PureX Tryz.prog (Instr.build 90 #[(0,.string x57)]) (tag K)=K (.agg #[.string x57,.string ⟨#[]⟩]):=px (fun w=>by kernel_rfl) K
@[push_cast] theorem bu_90_0_1 (x58 x59:ByteArray):PureX Tryz.prog (Instr.build 90 #[(0,.string x58),(1,.string x59)]) (tag K)=K (.agg #[.string x58,.string x59]):=px (fun w=>by kernel_rfl) K
@[push_cast] theorem bu_93_0_1 (x60:Int) (x61a:Option Addr) (x61n x61c:Nat):PureX Tryz.prog (Instr.build 93 #[(0,.int .i64 x60),(1,.slice x61a x61n x61c)]) (tag K)=K (.agg #[.int .i64 x60,.slice x61a x61n x61c]):=px (fun w=>by kernel_rfl) K
@[push_cast] theorem bu_105_0_1_2_3 (x62a x63a x70a:Option Addr) (x62n x62c x63n x63c x70n x70c:Nat) (x64:ByteArray) (x65 x71:Bool) (x66 x67 x68 x69:Int):PureX Tryz.prog (Instr.build 105 #[(0,.slice x62a x62n x62c),(1,.slice x63a x63n x63c),(2,.agg #[.string x64,.bool x65,.int .i64 x66,.int .i64 x67,.int .i64 x68,.int .i64 x69,.slice x70a x70n x70c]),(3,.bool x71)]) (tag K)=K (.agg #[.slice x62a x62n x62c,.slice x63a x63n x63c,.string x64,.bool x65,.int .i64 x66,.int .i64 x67,.int .i64 x68,.int .i64 x69,.slice x70a x70n x70c,.bool x71]):=px (fun w=>by kernel_rfl) K
@[push_cast] theorem bu_119_0_1_2_3 (x72a x79a x80a:Option Addr) (x72n x72c x79n x79c x80n x80c:Nat) (x73:ByteArray) (x74 x81:Bool) (x75 x76 x77 x78:Int):PureX Tryz.prog (Instr.build 119 #[(0,.slice x72a x72n x72c),(1,.agg #[.string x73,.bool x74,.int .i64 x75,.int .i64 x76,.int .i64 x77,.int .i64 x78,.slice x79a x79n x79c]),(2,.slice x80a x80n x80c),(3,.bool x81)]) (tag K)=K (.agg #[.slice x72a x72n x72c,.string x73,.bool x74,.int .i64 x75,.int .i64 x76,.int .i64 x77,.int .i64 x78,.slice x79a x79n x79c,.slice x80a x80n x80c,.bool x81]):=px (fun w=>by kernel_rfl) K
@[push_cast] theorem fi_51_0 (x90 x92:Int) (x91a:Option Addr) (x91n x91c:Nat):PureX Tryz.prog (Instr.field 51 (.agg #[.int .i64 x90,.slice x91a x91n x91c,.int .i64 x92]) 0) (tag K)=K (.int .i64 x90):=px (fun w=>by kernel_rfl) K
@[push_cast] theorem fi_84_0 (x93 x95 x96 x97:Int) (x94:ByteArray):PureX Tryz.prog (Instr.field 84 (.agg #[.int .i64 x93,.string x94,.int .i64 x95,.int .i64 x96,.int .i64 x97]) 0) (tag K)=K (.int .i64 x93):=px (fun w=>by kernel_rfl) K
@[push_cast] theorem fi_84_2 (x98 x100 x101 x102:Int) (x99:ByteArray):PureX Tryz.prog (Instr.field 84 (.agg #[.int .i64 x98,.string x99,.int .i64 x100,.int .i64 x101,.int .i64 x102]) 2) (tag K)=K (.int .i64 x100):=px (fun w=>by kernel_rfl) K
@[push_cast] theorem mi_69 (x:Value):PureX Tryz.prog (Instr.makeInterface 69 x) (tag K)=K (.iface 69 x):=px (fun w=>by kernel_rfl) K
@[push_cast] theorem cv_2_159 (n:Int):PureX Tryz.prog (convert 2 159 (.int .i64 n)) (tag K)=K (.int .u64 (IntKind.u64.wrap n)):=px (fun w=>by kernel_rfl) K
@[push_cast] theorem cv_3_5 (n:Int):PureX Tryz.prog (convert 3 5 (.int .i64 n)) (tag K)=K (.int .u8 (IntKind.u8.wrap n)):=px (fun w=>by kernel_rfl) K
@[push_cast] theorem cv_5_3 (n:Int):PureX Tryz.prog (convert 5 3 (.int .u8 n)) (tag K)=K (.int .i64 (IntKind.i64.wrap n)):=px (fun w=>by kernel_rfl) K
@[push_cast] theorem cv_159_3 (n:Int):PureX Tryz.prog (convert 159 3 (.int .u64 n)) (tag K)=K (.int .i64 (IntKind.i64.wrap n)):=px (fun w=>by kernel_rfl) K
theorem bs_24_1 {y103:ByteArray} {y104:Bool} {y105 y106 y107 y108:Int} {y109a:Option Addr} {y109n y109c:Nat} {wb:World} {L:Own} {K:Value→World→Own→Prop} (h:NewX wb L (.cells #[.string y103,.bool y104,.int .i64 y105,.int .i64 y106,.int .i64 y107,.int .i64 y108,.slice y109a y109n y109c] 37 (0,0)) (tag fun b L=>K (.slice (some ⟨b,0,none⟩) 1 1) wb L)):ValX Tryz.prog (Instr.buildSlice 24 1 #[(0,.agg #[.string y103,.bool y104,.int .i64 y105,.int .i64 y106,.int .i64 y107,.int .i64 y108,.slice y109a y109n y109c])]) wb L (tag K):=valX_new (fun w=>by kernel_rfl) h
theorem bs_24_2 {y110 y117:ByteArray} {y111 y118:Bool} {y112 y113 y114 y115 y119 y120 y121 y122:Int} {y116a y123a:Option Addr} {y116n y116c y123n y123c:Nat} {wb:World} {L:Own} {K:Value→World→Own→Prop} (h:NewX wb L (.cells #[.string y110,.bool y111,.int .i64 y112,.int .i64 y113,.int .i64 y114,.int .i64 y115,.slice y116a y116n y116c,.string y117,.bool y118,.int .i64 y119,.int .i64 y120,.int .i64 y121,.int .i64 y122,.slice y123a y123n y123c] 37 (0,0)) (tag fun b L=>K (.slice (some ⟨b,0,none⟩) 2 2) wb L)):ValX Tryz.prog (Instr.buildSlice 24 2 #[(0,.agg #[.string y110,.bool y111,.int .i64 y112,.int .i64 y113,.int .i64 y114,.int .i64 y115,.slice y116a y116n y116c]),(1,.agg #[.string y117,.bool y118,.int .i64 y119,.int .i64 y120,.int .i64 y121,.int .i64 y122,.slice y123a y123n y123c])]) wb L (tag K):=valX_new (fun w=>by kernel_rfl) h
theorem bs_25_1 {y145 y146:ByteArray} {wb:World} {L:Own} {K:Value→World→Own→Prop} (h:NewX wb L (.cells #[.string y145,.string y146] 90 (0,0)) (tag fun b L=>K (.slice (some ⟨b,0,none⟩) 1 1) wb L)):ValX Tryz.prog (Instr.buildSlice 25 1 #[(0,.agg #[.string y145,.string y146])]) wb L (tag K):=valX_new (fun w=>by kernel_rfl) h
theorem bs_49_1 {y157:Int} {wb:World} {L:Own} {K:Value→World→Own→Prop} (h:NewX wb L (.cells #[.int .i64 y157] 3 (0,0)) (tag fun b L=>K (.slice (some ⟨b,0,none⟩) 1 1) wb L)):ValX Tryz.prog (Instr.buildSlice 49 1 #[(0,.int .i64 y157)]) wb L (tag K):=valX_new (fun w=>by kernel_rfl) h
theorem bs_74_1 {y163:Int} {y164a:Option Addr} {y164n y164c:Nat} {wb:World} {L:Own} {K:Value→World→Own→Prop} (h:NewX wb L (.cells #[.int .i64 y163,.slice y164a y164n y164c] 93 (0,0)) (tag fun b L=>K (.slice (some ⟨b,0,none⟩) 1 1) wb L)):ValX Tryz.prog (Instr.buildSlice 74 1 #[(0,.agg #[.int .i64 y163,.slice y164a y164n y164c])]) wb L (tag K):=valX_new (fun w=>by kernel_rfl) h
theorem bs_108_1 {y175:Int} {wb:World} {L:Own} {K:Value→World→Own→Prop} (h:NewX wb L (.cells #[.int .u8 y175] 5 (0,0)) (tag fun b L=>K (.slice (some ⟨b,0,none⟩) 1 1) wb L)):ValX Tryz.prog (Instr.buildSlice 108 1 #[(0,.int .u8 y175)]) wb L (tag K):=valX_new (fun w=>by kernel_rfl) h
theorem bs_108_2 {y176 y177:Int} {wb:World} {L:Own} {K:Value→World→Own→Prop} (h:NewX wb L (.cells #[.int .u8 y176,.int .u8 y177] 5 (0,0)) (tag fun b L=>K (.slice (some ⟨b,0,none⟩) 2 2) wb L)):ValX Tryz.prog (Instr.buildSlice 108 2 #[(0,.int .u8 y176),(1,.int .u8 y177)]) wb L (tag K):=valX_new (fun w=>by kernel_rfl) h
theorem bs_115_1 {y181a y188a y189a:Option Addr} {y181n y181c y188n y188c y189n y189c:Nat} {y182:ByteArray} {y183 y190:Bool} {y184 y185 y186 y187:Int} {wb:World} {L:Own} {K:Value→World→Own→Prop} (h:NewX wb L (.cells #[.slice y181a y181n y181c,.string y182,.bool y183,.int .i64 y184,.int .i64 y185,.int .i64 y186,.int .i64 y187,.slice y188a y188n y188c,.slice y189a y189n y189c,.bool y190] 119 (0,0)) (tag fun b L=>K (.slice (some ⟨b,0,none⟩) 1 1) wb L)):ValX Tryz.prog (Instr.buildSlice 115 1 #[(0,.agg #[.slice y181a y181n y181c,.string y182,.bool y183,.int .i64 y184,.int .i64 y185,.int .i64 y186,.int .i64 y187,.slice y188a y188n y188c,.slice y189a y189n y189c,.bool y190])]) wb L (tag K):=valX_new (fun w=>by kernel_rfl) h
theorem en_5:entersB Tryz.prog 5=true:=entersB_of Tryz.func5 (by kernel_rfl)
theorem en_6:entersB Tryz.prog 6=true:=entersB_of Tryz.func6 (by kernel_rfl)
theorem en_7:entersB Tryz.prog 7=true:=entersB_of Tryz.func7 (by kernel_rfl)
theorem en_8:entersB Tryz.prog 8=true:=entersB_of Tryz.func8 (by kernel_rfl)
theorem en_9:entersB Tryz.prog 9=true:=entersB_of Tryz.func9 (by kernel_rfl)
theorem en_10:entersB Tryz.prog 10=true:=entersB_of Tryz.func10 (by kernel_rfl)
theorem en_11:entersB Tryz.prog 11=true:=entersB_of Tryz.func11 (by kernel_rfl)
theorem en_12:entersB Tryz.prog 12=true:=entersB_of Tryz.func12 (by kernel_rfl)
theorem en_13:entersB Tryz.prog 13=true:=entersB_of Tryz.func13 (by kernel_rfl)
theorem en_14:entersB Tryz.prog 14=true:=entersB_of Tryz.func14 (by kernel_rfl)
theorem en_15:entersB Tryz.prog 15=true:=entersB_of Tryz.func15 (by kernel_rfl)
theorem en_16:entersB Tryz.prog 16=true:=entersB_of Tryz.func16 (by kernel_rfl)
theorem en_17:entersB Tryz.prog 17=true:=entersB_of Tryz.func17 (by kernel_rfl)
theorem en_18:entersB Tryz.prog 18=true:=entersB_of Tryz.func18 (by kernel_rfl)
theorem en_19:entersB Tryz.prog 19=true:=entersB_of Tryz.func19 (by kernel_rfl)
theorem en_20:entersB Tryz.prog 20=true:=entersB_of Tryz.func20 (by kernel_rfl)
theorem en_21:entersB Tryz.prog 21=true:=entersB_of Tryz.func21 (by kernel_rfl)
theorem en_22:entersB Tryz.prog 22=true:=entersB_of Tryz.func22 (by kernel_rfl)
theorem en_23:entersB Tryz.prog 23=true:=entersB_of Tryz.func23 (by kernel_rfl)
theorem en_24:entersB Tryz.prog 24=true:=entersB_of Tryz.func24 (by kernel_rfl)
theorem en_25:entersB Tryz.prog 25=true:=entersB_of Tryz.func25 (by kernel_rfl)
theorem en_26:entersB Tryz.prog 26=true:=entersB_of Tryz.func26 (by kernel_rfl)
theorem en_27:entersB Tryz.prog 27=true:=entersB_of Tryz.func27 (by kernel_rfl)
theorem en_28:entersB Tryz.prog 28=true:=entersB_of Tryz.func28 (by kernel_rfl)
theorem en_29:entersB Tryz.prog 29=true:=entersB_of Tryz.func29 (by kernel_rfl)
theorem en_30:entersB Tryz.prog 30=true:=entersB_of Tryz.func30 (by kernel_rfl)
theorem en_31:entersB Tryz.prog 31=true:=entersB_of Tryz.func31 (by kernel_rfl)
theorem en_32:entersB Tryz.prog 32=true:=entersB_of Tryz.func32 (by kernel_rfl)
theorem en_33:entersB Tryz.prog 33=true:=entersB_of Tryz.func33 (by kernel_rfl)
theorem en_34:entersB Tryz.prog 34=true:=entersB_of Tryz.func34 (by kernel_rfl)
theorem en_35:entersB Tryz.prog 35=true:=entersB_of Tryz.func35 (by kernel_rfl)
theorem en_36:entersB Tryz.prog 36=true:=entersB_of Tryz.func36 (by kernel_rfl)
theorem en_37:entersB Tryz.prog 37=true:=entersB_of Tryz.func37 (by kernel_rfl)
theorem en_38:entersB Tryz.prog 38=true:=entersB_of Tryz.func38 (by kernel_rfl)
theorem en_39:entersB Tryz.prog 39=true:=entersB_of Tryz.func39 (by kernel_rfl)
theorem en_40:entersB Tryz.prog 40=true:=entersB_of Tryz.func40 (by kernel_rfl)
theorem en_41:entersB Tryz.prog 41=true:=entersB_of Tryz.func41 (by kernel_rfl)
theorem en_42:entersB Tryz.prog 42=true:=entersB_of Tryz.func42 (by kernel_rfl)
theorem en_43:entersB Tryz.prog 43=true:=entersB_of Tryz.func43 (by kernel_rfl)
theorem en_44:entersB Tryz.prog 44=true:=entersB_of Tryz.func44 (by kernel_rfl)
theorem en_45:entersB Tryz.prog 45=true:=entersB_of Tryz.func45 (by kernel_rfl)
theorem en_46:entersB Tryz.prog 46=true:=entersB_of Tryz.func46 (by kernel_rfl)
theorem en_47:entersB Tryz.prog 47=true:=entersB_of Tryz.func47 (by kernel_rfl)
theorem en_48:entersB Tryz.prog 48=true:=entersB_of Tryz.func48 (by kernel_rfl)
theorem en_49:entersB Tryz.prog 49=true:=entersB_of Tryz.func49 (by kernel_rfl)
theorem en_50:entersB Tryz.prog 50=true:=entersB_of Tryz.func50 (by kernel_rfl)
theorem en_51:entersB Tryz.prog 51=true:=entersB_of Tryz.func51 (by kernel_rfl)
theorem en_52:entersB Tryz.prog 52=true:=entersB_of Tryz.func52 (by kernel_rfl)
theorem en_53:entersB Tryz.prog 53=true:=entersB_of Tryz.func53 (by kernel_rfl)
theorem en_54:entersB Tryz.prog 54=true:=entersB_of Tryz.func54 (by kernel_rfl)
theorem en_55:entersB Tryz.prog 55=true:=entersB_of Tryz.func55 (by kernel_rfl)
theorem en_56:entersB Tryz.prog 56=true:=entersB_of Tryz.func56 (by kernel_rfl)
theorem en_57:entersB Tryz.prog 57=true:=entersB_of Tryz.func57 (by kernel_rfl)
theorem en_58:entersB Tryz.prog 58=true:=entersB_of Tryz.func58 (by kernel_rfl)
theorem en_59:entersB Tryz.prog 59=true:=entersB_of Tryz.func59 (by kernel_rfl)
theorem en_60:entersB Tryz.prog 60=true:=entersB_of Tryz.func60 (by kernel_rfl)
theorem en_61:entersB Tryz.prog 61=true:=entersB_of Tryz.func61 (by kernel_rfl)
theorem en_62:entersB Tryz.prog 62=true:=entersB_of Tryz.func62 (by kernel_rfl)
theorem en_63:entersB Tryz.prog 63=true:=entersB_of Tryz.func63 (by kernel_rfl)
theorem en_64:entersB Tryz.prog 64=true:=entersB_of Tryz.func64 (by kernel_rfl)
theorem en_65:entersB Tryz.prog 65=true:=entersB_of Tryz.func65 (by kernel_rfl)
theorem en_66:entersB Tryz.prog 66=true:=entersB_of Tryz.func66 (by kernel_rfl)
theorem en_67:entersB Tryz.prog 67=true:=entersB_of Tryz.func67 (by kernel_rfl)
theorem en_68:entersB Tryz.prog 68=true:=entersB_of Tryz.func68 (by kernel_rfl)
theorem en_69:entersB Tryz.prog 69=true:=entersB_of Tryz.func69 (by kernel_rfl)
theorem en_70:entersB Tryz.prog 70=true:=entersB_of Tryz.func70 (by kernel_rfl)
theorem en_71:entersB Tryz.prog 71=true:=entersB_of Tryz.func71 (by kernel_rfl)
theorem en_72:entersB Tryz.prog 72=true:=entersB_of Tryz.func72 (by kernel_rfl)
theorem en_73:entersB Tryz.prog 73=true:=entersB_of Tryz.func73 (by kernel_rfl)
theorem en_74:entersB Tryz.prog 74=true:=entersB_of Tryz.func74 (by kernel_rfl)
theorem en_75:entersB Tryz.prog 75=true:=entersB_of Tryz.func75 (by kernel_rfl)
theorem en_76:entersB Tryz.prog 76=true:=entersB_of Tryz.func76 (by kernel_rfl)
theorem en_77:entersB Tryz.prog 77=true:=entersB_of Tryz.func77 (by kernel_rfl)
theorem en_78:entersB Tryz.prog 78=true:=entersB_of Tryz.func78 (by kernel_rfl)
theorem en_79:entersB Tryz.prog 79=true:=entersB_of Tryz.func79 (by kernel_rfl)
theorem en_80:entersB Tryz.prog 80=true:=entersB_of Tryz.func80 (by kernel_rfl)
theorem en_81:entersB Tryz.prog 81=true:=entersB_of Tryz.func81 (by kernel_rfl)
theorem en_82:entersB Tryz.prog 82=true:=entersB_of Tryz.func82 (by kernel_rfl)
theorem en_83:entersB Tryz.prog 83=true:=entersB_of Tryz.func83 (by kernel_rfl)
theorem en_84:entersB Tryz.prog 84=true:=entersB_of Tryz.func84 (by kernel_rfl)
theorem en_85:entersB Tryz.prog 85=true:=entersB_of Tryz.func85 (by kernel_rfl)
theorem en_86:entersB Tryz.prog 86=true:=entersB_of Tryz.func86 (by kernel_rfl)
theorem en_87:entersB Tryz.prog 87=true:=entersB_of Tryz.func87 (by kernel_rfl)
theorem en_88:entersB Tryz.prog 88=true:=entersB_of Tryz.func88 (by kernel_rfl)
theorem en_89:entersB Tryz.prog 89=true:=entersB_of Tryz.func89 (by kernel_rfl)
theorem en_90:entersB Tryz.prog 90=true:=entersB_of Tryz.func90 (by kernel_rfl)
theorem en_91:entersB Tryz.prog 91=true:=entersB_of Tryz.func91 (by kernel_rfl)
theorem en_93:entersB Tryz.prog 93=true:=entersB_of Tryz.func93 (by kernel_rfl)
theorem en_94:entersB Tryz.prog 94=true:=entersB_of Tryz.func94 (by kernel_rfl)
theorem en_95:entersB Tryz.prog 95=true:=entersB_of Tryz.func95 (by kernel_rfl)
theorem en_96:entersB Tryz.prog 96=true:=entersB_of Tryz.func96 (by kernel_rfl)
theorem en_97:entersB Tryz.prog 97=true:=entersB_of Tryz.func97 (by kernel_rfl)
theorem en_98:entersB Tryz.prog 98=true:=entersB_of Tryz.func98 (by kernel_rfl)
theorem en_99:entersB Tryz.prog 99=true:=entersB_of Tryz.func99 (by kernel_rfl)
theorem en_101:entersB Tryz.prog 101=true:=entersB_of Tryz.func101 (by kernel_rfl)
theorem en_102:entersB Tryz.prog 102=true:=entersB_of Tryz.func102 (by kernel_rfl)
theorem en_103:entersB Tryz.prog 103=true:=entersB_of Tryz.func103 (by kernel_rfl)
theorem en_104:entersB Tryz.prog 104=true:=entersB_of Tryz.func104 (by kernel_rfl)
theorem en_105:entersB Tryz.prog 105=true:=entersB_of Tryz.func105 (by kernel_rfl)
theorem en_106:entersB Tryz.prog 106=true:=entersB_of Tryz.func106 (by kernel_rfl)
theorem en_107:entersB Tryz.prog 107=true:=entersB_of Tryz.func107 (by kernel_rfl)
theorem en_108:entersB Tryz.prog 108=true:=entersB_of Tryz.func108 (by kernel_rfl)
theorem en_109:entersB Tryz.prog 109=true:=entersB_of Tryz.func109 (by kernel_rfl)
theorem en_110:entersB Tryz.prog 110=true:=entersB_of Tryz.func110 (by kernel_rfl)
theorem en_111:entersB Tryz.prog 111=true:=entersB_of Tryz.func111 (by kernel_rfl)
theorem en_113:entersB Tryz.prog 113=true:=entersB_of Tryz.func113 (by kernel_rfl)
theorem en_114:entersB Tryz.prog 114=true:=entersB_of Tryz.func114 (by kernel_rfl)
theorem en_115:entersB Tryz.prog 115=true:=entersB_of Tryz.func115 (by kernel_rfl)
theorem en_116:entersB Tryz.prog 116=true:=entersB_of Tryz.func116 (by kernel_rfl)
theorem en_117:entersB Tryz.prog 117=true:=entersB_of Tryz.func117 (by kernel_rfl)
theorem en_119:entersB Tryz.prog 119=true:=entersB_of Tryz.func119 (by kernel_rfl)
theorem en_120:entersB Tryz.prog 120=true:=entersB_of Tryz.func120 (by kernel_rfl)
theorem en_121:entersB Tryz.prog 121=true:=entersB_of Tryz.func121 (by kernel_rfl)
theorem en_122:entersB Tryz.prog 122=true:=entersB_of Tryz.func122 (by kernel_rfl)
theorem en_126:entersB Tryz.prog 126=true:=entersB_of Tryz.func126 (by kernel_rfl)
theorem en_133:entersB Tryz.prog 133=true:=entersB_of Tryz.func133 (by kernel_rfl)
abbrev qb0 (x0:Nat) (x1:Fld) (x2:Option Addr) (x3:Nat):Nat×Obj:=(x0,Obj.cells #[str x1.nm,.bool x1.nl,i64 x1.k,i64 x1.wd,i64 x1.id,i64 x1.ix,.slice x2 x1.sub.length x3] 37 (0,0))
abbrev qb1 (x0:Nat) (x1:Nat) (x2:Nat) (x3:Nat) (x4:Option Addr) (x5:Nat) (x6:Nat) (x7:Fld) (x8:Option Addr) (x9:Nat) (x10:Bool):Nat×Obj:=(x0,Obj.cells #[.slice (some ⟨x1,0,none⟩) x2 x3,.slice x4 x5 x6,str x7.nm,.bool x7.nl,i64 x7.k,i64 x7.wd,i64 x7.id,i64 x7.ix,.slice x8 x7.sub.length x9,.bool x10] 105 (0,0))
abbrev qb2 (x0:Nat) (x1:Fld) (x2:Option Addr) (x3:Nat):Nat×Obj:=(x0,Obj.cells #[i64 x1.k,i64 x1.wd,i64 x1.id,i64 x1.ix,.slice x2 x1.sub.length x3] 35 (0,0))
abbrev qb3 (x0:Nat) (x1:Int):Nat×Obj:=(x0,Obj.cells #[i64 x1] 3 (0,0))
abbrev qb4 (x0:Nat) (x1:Option Addr) (x2:Nat) (x3:Nat) (x4:Option Addr) (x5:Nat) (x6:Nat):Nat×Obj:=(x0,Obj.cells #[.slice x1 x2 x3,.slice x4 x5 x6] 27 (0,0))
abbrev qb5 (x0:Nat) (x1:List UInt8) (x2:List UInt8):Nat×Obj:=(x0,Obj.cells #[str x1,str x2] 90 (0,0))
abbrev qb6 (x0:Nat) (x1:Int) (x2:Option Addr) (x3:Nat) (x4:Nat):Nat×Obj:=(x0,Obj.cells #[i64 x1,.slice x2 x3 x4] 93 (0,0))
abbrev qb7 (x0:Nat):Nat×Obj:=(x0,Obj.cells #[str [97],.bool false,i64 6,i64 0,i64 0,i64 0,.slice none 0 0] 37 (0,0))
abbrev qb8 (x0:Nat) (x1:Nat):Nat×Obj:=(x0,Obj.cells #[str [97],.bool false,i64 6,i64 0,i64 0,i64 0,.slice none 0 0,str [108],.bool true,i64 15,i64 0,i64 0,i64 0,.slice (some ⟨x1,0,none⟩) 1 1] 37 (0,0))
abbrev qb9 (x0:Nat):Nat×Obj:=(x0,Obj.cells #[str [],.bool false,i64 0,i64 0,i64 0,i64 0,.slice none 0 0] 37 (0,0))
abbrev qb10 (x0:Nat):Nat×Obj:=(x0,Obj.cells #[str [97],.bool false,i64 6,i64 0,i64 0,i64 0,.slice none 0 0,str [97],.bool false,i64 6,i64 0,i64 0,i64 0,.slice none 0 0] 37 (0,0))
abbrev qb11 (x0:Nat) (x1:Option Addr) (x2:Nat) (x3:Nat):Nat×Obj:=(x0,Obj.cells #[.slice x1 x2 x3] 24 (0,0))
abbrev qb12 (x0:Nat):Nat×Obj:=(x0,Obj.cells #[i64 0,.slice none 0 0,i64 0] 51 (0,0))
abbrev qb13 (x0:Nat):Nat×Obj:=(x0,Obj.cells #[i64 0] 3 (0,0))
abbrev qb14 (x0:Nat) (x1:Nat):Nat×Obj:=(x0,Obj.cells #[str [108],.bool true,i64 15,i64 0,i64 0,i64 0,.slice (some ⟨x1,0,none⟩) 1 1] 37 (0,0))
end Go.Proofs.YtdmdgkpjjpijdaaGreatDoor
