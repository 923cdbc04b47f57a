/- Facts on the program of seat YtilejcofleeeiaaGreatDoor, for the walks: written by program (genfacts.py) off the translation's type table. -/
import Derived.Test.YtilejcofleeeiaaGreatDoorProg
import Derived.Test.YtilejcofleeeiaaGreatDoorKg
import Derived.KernelRfl
namespace Go.Proofs.YtilejcofleeeiaaGreatDoor
open Go Go.K
variable {K:Value→Prop}
theorem mixed:Tryz.prog.follows .mixedOrders=true:=by kernel_rfl
@[push_cast] theorem fa_24_0 (b o:Nat):PureX Tryz.prog (Instr.fieldAt 24 (.pointer (some ⟨b,o,none⟩)) 0) (tag K)=K (.pointer (some ⟨b,o,none⟩)):=px (fun w=>by kernel_rfl) K
@[push_cast] theorem fa_24_1 (b o:Nat):PureX Tryz.prog (Instr.fieldAt 24 (.pointer (some ⟨b,o,none⟩)) 1) (tag K)=K (.pointer (some ⟨b,o+1,none⟩)):=px (fun w=>by kernel_rfl) K
@[push_cast] theorem fa_24_2 (b o:Nat):PureX Tryz.prog (Instr.fieldAt 24 (.pointer (some ⟨b,o,none⟩)) 2) (tag K)=K (.pointer (some ⟨b,o+2,none⟩)):=px (fun w=>by kernel_rfl) K
@[push_cast] theorem fa_24_3 (b o:Nat):PureX Tryz.prog (Instr.fieldAt 24 (.pointer (some ⟨b,o,none⟩)) 3) (tag K)=K (.pointer (some ⟨b,o+3,none⟩)):=px (fun w=>by kernel_rfl) K
@[push_cast] theorem fa_24_4 (b o:Nat):PureX Tryz.prog (Instr.fieldAt 24 (.pointer (some ⟨b,o,none⟩)) 4) (tag K)=K (.pointer (some ⟨b,o+4,none⟩)):=px (fun w=>by kernel_rfl) K
@[push_cast] theorem fa_26_0 (b o:Nat):PureX Tryz.prog (Instr.fieldAt 26 (.pointer (some ⟨b,o,none⟩)) 0) (tag K)=K (.pointer (some ⟨b,o,none⟩)):=px (fun w=>by kernel_rfl) K
@[push_cast] theorem fa_26_1 (b o:Nat):PureX Tryz.prog (Instr.fieldAt 26 (.pointer (some ⟨b,o,none⟩)) 1) (tag K)=K (.pointer (some ⟨b,o+1,none⟩)):=px (fun w=>by kernel_rfl) K
@[push_cast] theorem fa_26_2 (b o:Nat):PureX Tryz.prog (Instr.fieldAt 26 (.pointer (some ⟨b,o,none⟩)) 2) (tag K)=K (.pointer (some ⟨b,o+2,none⟩)):=px (fun w=>by kernel_rfl) K
@[push_cast] theorem fa_29_0 (b o:Nat):PureX Tryz.prog (Instr.fieldAt 29 (.pointer (some ⟨b,o,none⟩)) 0) (tag K)=K (.pointer (some ⟨b,o,none⟩)):=px (fun w=>by kernel_rfl) K
@[push_cast] theorem fa_29_1 (b o:Nat):PureX Tryz.prog (Instr.fieldAt 29 (.pointer (some ⟨b,o,none⟩)) 1) (tag K)=K (.pointer (some ⟨b,o+1,none⟩)):=px (fun w=>by kernel_rfl) K
@[push_cast] theorem fa_29_2 (b o:Nat):PureX Tryz.prog (Instr.fieldAt 29 (.pointer (some ⟨b,o,none⟩)) 2) (tag K)=K (.pointer (some ⟨b,o+2,none⟩)):=px (fun w=>by kernel_rfl) K
@[push_cast] theorem fa_29_3 (b o:Nat):PureX Tryz.prog (Instr.fieldAt 29 (.pointer (some ⟨b,o,none⟩)) 3) (tag K)=K (.pointer (some ⟨b,o+3,none⟩)):=px (fun w=>by kernel_rfl) K
@[push_cast] theorem fa_43_0 (b o:Nat):PureX Tryz.prog (Instr.fieldAt 43 (.pointer (some ⟨b,o,none⟩)) 0) (tag K)=K (.pointer (some ⟨b,o,none⟩)):=px (fun w=>by kernel_rfl) K
@[push_cast] theorem fa_43_1 (b o:Nat):PureX Tryz.prog (Instr.fieldAt 43 (.pointer (some ⟨b,o,none⟩)) 1) (tag K)=K (.pointer (some ⟨b,o+1,none⟩)):=px (fun w=>by kernel_rfl) K
@[push_cast] theorem fa_43_2 (b o:Nat):PureX Tryz.prog (Instr.fieldAt 43 (.pointer (some ⟨b,o,none⟩)) 2) (tag K)=K (.pointer (some ⟨b,o+2,none⟩)):=px (fun w=>by kernel_rfl) K
@[push_cast] theorem fa_56_1 (b o:Nat):PureX Tryz.prog (Instr.fieldAt 56 (.pointer (some ⟨b,o,none⟩)) 1) (tag K)=K (.pointer (some ⟨b,o+1,none⟩)):=px (fun w=>by kernel_rfl) K
@[push_cast] theorem fa_58_0 (b o:Nat):PureX Tryz.prog (Instr.fieldAt 58 (.pointer (some ⟨b,o,none⟩)) 0) (tag K)=K (.pointer (some ⟨b,o,none⟩)):=px (fun w=>by kernel_rfl) K
@[push_cast] theorem fa_66_0 (b o:Nat):PureX Tryz.prog (Instr.fieldAt 66 (.pointer (some ⟨b,o,none⟩)) 0) (tag K)=K (.pointer (some ⟨b,o,none⟩)):=px (fun w=>by kernel_rfl) K
@[push_cast] theorem fa_66_1 (b o:Nat):PureX Tryz.prog (Instr.fieldAt 66 (.pointer (some ⟨b,o,none⟩)) 1) (tag K)=K (.pointer (some ⟨b,o+1,none⟩)):=px (fun w=>by kernel_rfl) K
@[push_cast] theorem fa_66_2 (b o:Nat):PureX Tryz.prog (Instr.fieldAt 66 (.pointer (some ⟨b,o,none⟩)) 2) (tag K)=K (.pointer (some ⟨b,o+2,none⟩)):=px (fun w=>by kernel_rfl) K
@[push_cast] theorem fa_66_3 (b o:Nat):PureX Tryz.prog (Instr.fieldAt 66 (.pointer (some ⟨b,o,none⟩)) 3) (tag K)=K (.pointer (some ⟨b,o+3,none⟩)):=px (fun w=>by kernel_rfl) K
@[push_cast] theorem fa_70_0 (b o:Nat):PureX Tryz.prog (Instr.fieldAt 70 (.pointer (some ⟨b,o,none⟩)) 0) (tag K)=K (.pointer (some ⟨b,o,none⟩)):=px (fun w=>by kernel_rfl) K
@[push_cast] theorem fa_70_1 (b o:Nat):PureX Tryz.prog (Instr.fieldAt 70 (.pointer (some ⟨b,o,none⟩)) 1) (tag K)=K (.pointer (some ⟨b,o+1,none⟩)):=px (fun w=>by kernel_rfl) K
@[push_cast] theorem fa_74_0 (b o:Nat):PureX Tryz.prog (Instr.fieldAt 74 (.pointer (some ⟨b,o,none⟩)) 0) (tag K)=K (.pointer (some ⟨b,o,none⟩)):=px (fun w=>by kernel_rfl) K
@[push_cast] theorem fa_74_1 (b o:Nat):PureX Tryz.prog (Instr.fieldAt 74 (.pointer (some ⟨b,o,none⟩)) 1) (tag K)=K (.pointer (some ⟨b,o+1,none⟩)):=px (fun w=>by kernel_rfl) K
@[push_cast] theorem fa_85_0 (b o:Nat):PureX Tryz.prog (Instr.fieldAt 85 (.pointer (some ⟨b,o,none⟩)) 0) (tag K)=K (.pointer (some ⟨b,o,none⟩)):=px (fun w=>by kernel_rfl) K
@[push_cast] theorem fa_85_1 (b o:Nat):PureX Tryz.prog (Instr.fieldAt 85 (.pointer (some ⟨b,o,none⟩)) 1) (tag K)=K (.pointer (some ⟨b,o+1,none⟩)):=px (fun w=>by kernel_rfl) K
@[push_cast] theorem fa_89_0 (b o:Nat):PureX Tryz.prog (Instr.fieldAt 89 (.pointer (some ⟨b,o,none⟩)) 0) (tag K)=K (.pointer (some ⟨b,o,none⟩)):=px (fun w=>by kernel_rfl) K
@[push_cast] theorem fa_114_0 (b o:Nat):PureX Tryz.prog (Instr.fieldAt 114 (.pointer (some ⟨b,o,none⟩)) 0) (tag K)=K (.pointer (some ⟨b,o,none⟩)):=px (fun w=>by kernel_rfl) K
@[push_cast] theorem fa_114_1 (b o:Nat):PureX Tryz.prog (Instr.fieldAt 114 (.pointer (some ⟨b,o,none⟩)) 1) (tag K)=K (.pointer (some ⟨b,o+1,none⟩)):=px (fun w=>by kernel_rfl) K
@[push_cast] theorem fa_139_0 (b o:Nat):PureX Tryz.prog (Instr.fieldAt 139 (.pointer (some ⟨b,o,none⟩)) 0) (tag K)=K (.pointer (some ⟨b,o,none⟩)):=px (fun w=>by kernel_rfl) K
@[push_cast] theorem fa_139_1 (b o:Nat):PureX Tryz.prog (Instr.fieldAt 139 (.pointer (some ⟨b,o,none⟩)) 1) (tag K)=K (.pointer (some ⟨b,o+1,none⟩)):=px (fun w=>by kernel_rfl) K
@[push_cast] theorem fa_145_0 (b o:Nat):PureX Tryz.prog (Instr.fieldAt 145 (.pointer (some ⟨b,o,none⟩)) 0) (tag K)=K (.pointer (some ⟨b,o,none⟩)):=px (fun w=>by kernel_rfl) K
@[push_cast] theorem fa_145_1 (b o:Nat):PureX Tryz.prog (Instr.fieldAt 145 (.pointer (some ⟨b,o,none⟩)) 1) (tag K)=K (.pointer (some ⟨b,o+1,none⟩)):=px (fun w=>by kernel_rfl) K
@[push_cast] theorem fa_145_2 (b o:Nat):PureX Tryz.prog (Instr.fieldAt 145 (.pointer (some ⟨b,o,none⟩)) 2) (tag K)=K (.pointer (some ⟨b,o+2,none⟩)):=px (fun w=>by kernel_rfl) K
@[push_cast] theorem fa_145_3 (b o:Nat):PureX Tryz.prog (Instr.fieldAt 145 (.pointer (some ⟨b,o,none⟩)) 3) (tag K)=K (.pointer (some ⟨b,o+9,none⟩)):=px (fun w=>by kernel_rfl) K
@[push_cast] theorem fa_165_0 (b o:Nat):PureX Tryz.prog (Instr.fieldAt 165 (.pointer (some ⟨b,o,none⟩)) 0) (tag K)=K (.pointer (some ⟨b,o,none⟩)):=px (fun w=>by kernel_rfl) K
@[push_cast] theorem fa_165_1 (b o:Nat):PureX Tryz.prog (Instr.fieldAt 165 (.pointer (some ⟨b,o,none⟩)) 1) (tag K)=K (.pointer (some ⟨b,o+1,none⟩)):=px (fun w=>by kernel_rfl) K
@[push_cast] theorem fa_165_2 (b o:Nat):PureX Tryz.prog (Instr.fieldAt 165 (.pointer (some ⟨b,o,none⟩)) 2) (tag K)=K (.pointer (some ⟨b,o+8,none⟩)):=px (fun w=>by kernel_rfl) K
@[push_cast] theorem fa_165_3 (b o:Nat):PureX Tryz.prog (Instr.fieldAt 165 (.pointer (some ⟨b,o,none⟩)) 3) (tag K)=K (.pointer (some ⟨b,o+9,none⟩)):=px (fun w=>by kernel_rfl) K
@[push_cast] theorem fa_192_3 (b o:Nat):PureX Tryz.prog (Instr.fieldAt 192 (.pointer (some ⟨b,o,none⟩)) 3) (tag K)=K (.pointer (some ⟨b,o+3,none⟩)):=px (fun w=>by kernel_rfl) K
@[push_cast] theorem sh_2:shapeOf Tryz.prog 2=some (false,1):=by kernel_rfl
@[push_cast] theorem sz_2:(Tryz.prog.info? 2).map (·.size)=some 1:=by kernel_rfl
instance :Shp Tryz.prog 2 false 1:=⟨sh_2⟩
instance :Siz Tryz.prog 2 1:=⟨sz_2⟩
@[push_cast] theorem sh_3:shapeOf Tryz.prog 3=some (false,1):=by kernel_rfl
@[push_cast] theorem sz_3:(Tryz.prog.info? 3).map (·.size)=some 1:=by kernel_rfl
instance :Shp Tryz.prog 3 false 1:=⟨sh_3⟩
instance :Siz Tryz.prog 3 1:=⟨sz_3⟩
@[push_cast] theorem sh_4:shapeOf Tryz.prog 4=some (false,1):=by kernel_rfl
@[push_cast] theorem sz_4:(Tryz.prog.info? 4).map (·.size)=some 1:=by kernel_rfl
instance :Shp Tryz.prog 4 false 1:=⟨sh_4⟩
instance :Siz Tryz.prog 4 1:=⟨sz_4⟩
@[push_cast] theorem sh_5:shapeOf Tryz.prog 5=some (false,1):=by kernel_rfl
@[push_cast] theorem sz_5:(Tryz.prog.info? 5).map (·.size)=some 1:=by kernel_rfl
instance :Shp Tryz.prog 5 false 1:=⟨sh_5⟩
instance :Siz Tryz.prog 5 1:=⟨sz_5⟩
@[push_cast] theorem sh_9:shapeOf Tryz.prog 9=some (false,1):=by kernel_rfl
@[push_cast] theorem sz_9:(Tryz.prog.info? 9).map (·.size)=some 1:=by kernel_rfl
instance :Shp Tryz.prog 9 false 1:=⟨sh_9⟩
instance :Siz Tryz.prog 9 1:=⟨sz_9⟩
@[push_cast] theorem sh_22:shapeOf Tryz.prog 22=some (false,1):=by kernel_rfl
@[push_cast] theorem sz_22:(Tryz.prog.info? 22).map (·.size)=some 1:=by kernel_rfl
instance :Shp Tryz.prog 22 false 1:=⟨sh_22⟩
instance :Siz Tryz.prog 22 1:=⟨sz_22⟩
@[push_cast] theorem sh_24:shapeOf Tryz.prog 24=some (true,5):=by kernel_rfl
@[push_cast] theorem sz_24:(Tryz.prog.info? 24).map (·.size)=some 5:=by kernel_rfl
instance :Shp Tryz.prog 24 true 5:=⟨sh_24⟩
instance :Siz Tryz.prog 24 5:=⟨sz_24⟩
@[push_cast] theorem sh_26:shapeOf Tryz.prog 26=some (true,7):=by kernel_rfl
@[push_cast] theorem sz_26:(Tryz.prog.info? 26).map (·.size)=some 7:=by kernel_rfl
instance :Shp Tryz.prog 26 true 7:=⟨sh_26⟩
instance :Siz Tryz.prog 26 7:=⟨sz_26⟩
@[push_cast] theorem sh_27:shapeOf Tryz.prog 27=some (false,1):=by kernel_rfl
@[push_cast] theorem sz_27:(Tryz.prog.info? 27).map (·.size)=some 1:=by kernel_rfl
instance :Shp Tryz.prog 27 false 1:=⟨sh_27⟩
instance :Siz Tryz.prog 27 1:=⟨sz_27⟩
@[push_cast] theorem sh_29:shapeOf Tryz.prog 29=some (true,4):=by kernel_rfl
@[push_cast] theorem sz_29:(Tryz.prog.info? 29).map (·.size)=some 4:=by kernel_rfl
instance :Shp Tryz.prog 29 true 4:=⟨sh_29⟩
instance :Siz Tryz.prog 29 4:=⟨sz_29⟩
@[push_cast] theorem sh_30:shapeOf Tryz.prog 30=some (false,1):=by kernel_rfl
@[push_cast] theorem sz_30:(Tryz.prog.info? 30).map (·.size)=some 1:=by kernel_rfl
instance :Shp Tryz.prog 30 false 1:=⟨sh_30⟩
instance :Siz Tryz.prog 30 1:=⟨sz_30⟩
@[push_cast] theorem sh_40:shapeOf Tryz.prog 40=some (false,1):=by kernel_rfl
@[push_cast] theorem sz_40:(Tryz.prog.info? 40).map (·.size)=some 1:=by kernel_rfl
instance :Shp Tryz.prog 40 false 1:=⟨sh_40⟩
instance :Siz Tryz.prog 40 1:=⟨sz_40⟩
@[push_cast] theorem sh_41:shapeOf Tryz.prog 41=some (false,1):=by kernel_rfl
@[push_cast] theorem sz_41:(Tryz.prog.info? 41).map (·.size)=some 1:=by kernel_rfl
instance :Shp Tryz.prog 41 false 1:=⟨sh_41⟩
instance :Siz Tryz.prog 41 1:=⟨sz_41⟩
@[push_cast] theorem sh_43:shapeOf Tryz.prog 43=some (true,4):=by kernel_rfl
@[push_cast] theorem sz_43:(Tryz.prog.info? 43).map (·.size)=some 4:=by kernel_rfl
instance :Shp Tryz.prog 43 true 4:=⟨sh_43⟩
instance :Siz Tryz.prog 43 4:=⟨sz_43⟩
@[push_cast] theorem sh_53:shapeOf Tryz.prog 53=some (false,1):=by kernel_rfl
@[push_cast] theorem sz_53:(Tryz.prog.info? 53).map (·.size)=some 1:=by kernel_rfl
instance :Shp Tryz.prog 53 false 1:=⟨sh_53⟩
instance :Siz Tryz.prog 53 1:=⟨sz_53⟩
@[push_cast] theorem sh_54:shapeOf Tryz.prog 54=some (false,1):=by kernel_rfl
@[push_cast] theorem sz_54:(Tryz.prog.info? 54).map (·.size)=some 1:=by kernel_rfl
instance :Shp Tryz.prog 54 false 1:=⟨sh_54⟩
instance :Siz Tryz.prog 54 1:=⟨sz_54⟩
@[push_cast] theorem sh_56:shapeOf Tryz.prog 56=some (true,2):=by kernel_rfl
@[push_cast] theorem sz_56:(Tryz.prog.info? 56).map (·.size)=some 2:=by kernel_rfl
instance :Shp Tryz.prog 56 true 2:=⟨sh_56⟩
instance :Siz Tryz.prog 56 2:=⟨sz_56⟩
@[push_cast] theorem sh_58:shapeOf Tryz.prog 58=some (true,2):=by kernel_rfl
@[push_cast] theorem sz_58:(Tryz.prog.info? 58).map (·.size)=some 2:=by kernel_rfl
instance :Shp Tryz.prog 58 true 2:=⟨sh_58⟩
instance :Siz Tryz.prog 58 2:=⟨sz_58⟩
@[push_cast] theorem sh_66:shapeOf Tryz.prog 66=some (true,4):=by kernel_rfl
@[push_cast] theorem sz_66:(Tryz.prog.info? 66).map (·.size)=some 4:=by kernel_rfl
instance :Shp Tryz.prog 66 true 4:=⟨sh_66⟩
instance :Siz Tryz.prog 66 4:=⟨sz_66⟩
@[push_cast] theorem sh_70:shapeOf Tryz.prog 70=some (true,2):=by kernel_rfl
@[push_cast] theorem sz_70:(Tryz.prog.info? 70).map (·.size)=some 2:=by kernel_rfl
instance :Shp Tryz.prog 70 true 2:=⟨sh_70⟩
instance :Siz Tryz.prog 70 2:=⟨sz_70⟩
@[push_cast] theorem sh_74:shapeOf Tryz.prog 74=some (true,2):=by kernel_rfl
@[push_cast] theorem sz_74:(Tryz.prog.info? 74).map (·.size)=some 2:=by kernel_rfl
instance :Shp Tryz.prog 74 true 2:=⟨sh_74⟩
instance :Siz Tryz.prog 74 2:=⟨sz_74⟩
@[push_cast] theorem sh_76:shapeOf Tryz.prog 76=some (false,1):=by kernel_rfl
@[push_cast] theorem sz_76:(Tryz.prog.info? 76).map (·.size)=some 1:=by kernel_rfl
instance :Shp Tryz.prog 76 false 1:=⟨sh_76⟩
instance :Siz Tryz.prog 76 1:=⟨sz_76⟩
@[push_cast] theorem sh_80:shapeOf Tryz.prog 80=some (false,1):=by kernel_rfl
@[push_cast] theorem sz_80:(Tryz.prog.info? 80).map (·.size)=some 1:=by kernel_rfl
instance :Shp Tryz.prog 80 false 1:=⟨sh_80⟩
instance :Siz Tryz.prog 80 1:=⟨sz_80⟩
@[push_cast] theorem sh_85:shapeOf Tryz.prog 85=some (true,3):=by kernel_rfl
@[push_cast] theorem sz_85:(Tryz.prog.info? 85).map (·.size)=some 3:=by kernel_rfl
instance :Shp Tryz.prog 85 true 3:=⟨sh_85⟩
instance :Siz Tryz.prog 85 3:=⟨sz_85⟩
@[push_cast] theorem sh_89:shapeOf Tryz.prog 89=some (true,1):=by kernel_rfl
@[push_cast] theorem sz_89:(Tryz.prog.info? 89).map (·.size)=some 1:=by kernel_rfl
instance :Shp Tryz.prog 89 true 1:=⟨sh_89⟩
instance :Siz Tryz.prog 89 1:=⟨sz_89⟩
@[push_cast] theorem sh_91:shapeOf Tryz.prog 91=some (false,1):=by kernel_rfl
@[push_cast] theorem sz_91:(Tryz.prog.info? 91).map (·.size)=some 1:=by kernel_rfl
instance :Shp Tryz.prog 91 false 1:=⟨sh_91⟩
instance :Siz Tryz.prog 91 1:=⟨sz_91⟩
@[push_cast] theorem sh_112:shapeOf Tryz.prog 112=some (false,1):=by kernel_rfl
@[push_cast] theorem sz_112:(Tryz.prog.info? 112).map (·.size)=some 1:=by kernel_rfl
instance :Shp Tryz.prog 112 false 1:=⟨sh_112⟩
instance :Siz Tryz.prog 112 1:=⟨sz_112⟩
@[push_cast] theorem sh_114:shapeOf Tryz.prog 114=some (true,2):=by kernel_rfl
@[push_cast] theorem sz_114:(Tryz.prog.info? 114).map (·.size)=some 2:=by kernel_rfl
instance :Shp Tryz.prog 114 true 2:=⟨sh_114⟩
instance :Siz Tryz.prog 114 2:=⟨sz_114⟩
@[push_cast] theorem sh_139:shapeOf Tryz.prog 139=some (true,2):=by kernel_rfl
@[push_cast] theorem sz_139:(Tryz.prog.info? 139).map (·.size)=some 2:=by kernel_rfl
instance :Shp Tryz.prog 139 true 2:=⟨sh_139⟩
instance :Siz Tryz.prog 139 2:=⟨sz_139⟩
@[push_cast] theorem sh_140:shapeOf Tryz.prog 140=some (false,1):=by kernel_rfl
@[push_cast] theorem sz_140:(Tryz.prog.info? 140).map (·.size)=some 1:=by kernel_rfl
instance :Shp Tryz.prog 140 false 1:=⟨sh_140⟩
instance :Siz Tryz.prog 140 1:=⟨sz_140⟩
@[push_cast] theorem sh_145:shapeOf Tryz.prog 145=some (true,10):=by kernel_rfl
@[push_cast] theorem sz_145:(Tryz.prog.info? 145).map (·.size)=some 10:=by kernel_rfl
instance :Shp Tryz.prog 145 true 10:=⟨sh_145⟩
instance :Siz Tryz.prog 145 10:=⟨sz_145⟩
@[push_cast] theorem sh_150:shapeOf Tryz.prog 150=some (true,2):=by kernel_rfl
@[push_cast] theorem sz_150:(Tryz.prog.info? 150).map (·.size)=some 2:=by kernel_rfl
instance :Shp Tryz.prog 150 true 2:=⟨sh_150⟩
instance :Siz Tryz.prog 150 2:=⟨sz_150⟩
@[push_cast] theorem sh_151:shapeOf Tryz.prog 151=some (true,32):=by kernel_rfl
@[push_cast] theorem sz_151:(Tryz.prog.info? 151).map (·.size)=some 32:=by kernel_rfl
instance :Shp Tryz.prog 151 true 32:=⟨sh_151⟩
instance :Siz Tryz.prog 151 32:=⟨sz_151⟩
@[push_cast] theorem sh_156:shapeOf Tryz.prog 156=some (true,24):=by kernel_rfl
@[push_cast] theorem sz_156:(Tryz.prog.info? 156).map (·.size)=some 24:=by kernel_rfl
instance :Shp Tryz.prog 156 true 24:=⟨sh_156⟩
instance :Siz Tryz.prog 156 24:=⟨sz_156⟩
@[push_cast] theorem sh_165:shapeOf Tryz.prog 165=some (true,10):=by kernel_rfl
@[push_cast] theorem sz_165:(Tryz.prog.info? 165).map (·.size)=some 10:=by kernel_rfl
instance :Shp Tryz.prog 165 true 10:=⟨sh_165⟩
instance :Siz Tryz.prog 165 10:=⟨sz_165⟩
@[push_cast] theorem sh_173:shapeOf Tryz.prog 173=some (false,1):=by kernel_rfl
@[push_cast] theorem sz_173:(Tryz.prog.info? 173).map (·.size)=some 1:=by kernel_rfl
instance :Shp Tryz.prog 173 false 1:=⟨sh_173⟩
instance :Siz Tryz.prog 173 1:=⟨sz_173⟩
@[push_cast] theorem sh_174:shapeOf Tryz.prog 174=some (false,1):=by kernel_rfl
@[push_cast] theorem sz_174:(Tryz.prog.info? 174).map (·.size)=some 1:=by kernel_rfl
instance :Shp Tryz.prog 174 false 1:=⟨sh_174⟩
instance :Siz Tryz.prog 174 1:=⟨sz_174⟩
@[push_cast] theorem sh_180:shapeOf Tryz.prog 180=some (true,20):=by kernel_rfl
@[push_cast] theorem sz_180:(Tryz.prog.info? 180).map (·.size)=some 20:=by kernel_rfl
instance :Shp Tryz.prog 180 true 20:=⟨sh_180⟩
instance :Siz Tryz.prog 180 20:=⟨sz_180⟩
@[push_cast] theorem sh_182:shapeOf Tryz.prog 182=some (true,65):=by kernel_rfl
@[push_cast] theorem sz_182:(Tryz.prog.info? 182).map (·.size)=some 65:=by kernel_rfl
instance :Shp Tryz.prog 182 true 65:=⟨sh_182⟩
instance :Siz Tryz.prog 182 65:=⟨sz_182⟩
@[push_cast] theorem sh_193:shapeOf Tryz.prog 193=some (true,84):=by kernel_rfl
@[push_cast] theorem sz_193:(Tryz.prog.info? 193).map (·.size)=some 84:=by kernel_rfl
instance :Shp Tryz.prog 193 true 84:=⟨sh_193⟩
instance :Siz Tryz.prog 193 84:=⟨sz_193⟩
@[push_cast] theorem sh_197:shapeOf Tryz.prog 197=some (true,3):=by kernel_rfl
@[push_cast] theorem sz_197:(Tryz.prog.info? 197).map (·.size)=some 3:=by kernel_rfl
instance :Shp Tryz.prog 197 true 3:=⟨sh_197⟩
instance :Siz Tryz.prog 197 3:=⟨sz_197⟩
@[push_cast] theorem sh_199:shapeOf Tryz.prog 199=some (true,32):=by kernel_rfl
@[push_cast] theorem sz_199:(Tryz.prog.info? 199).map (·.size)=some 32:=by kernel_rfl
instance :Shp Tryz.prog 199 true 32:=⟨sh_199⟩
instance :Siz Tryz.prog 199 32:=⟨sz_199⟩
@[push_cast] theorem sh_200:shapeOf Tryz.prog 200=some (true,64):=by kernel_rfl
@[push_cast] theorem sz_200:(Tryz.prog.info? 200).map (·.size)=some 64:=by kernel_rfl
instance :Shp Tryz.prog 200 true 64:=⟨sh_200⟩
instance :Siz Tryz.prog 200 64:=⟨sz_200⟩
@[push_cast] theorem sh_203:shapeOf Tryz.prog 203=some (true,1):=by kernel_rfl
@[push_cast] theorem sz_203:(Tryz.prog.info? 203).map (·.size)=some 1:=by kernel_rfl
instance :Shp Tryz.prog 203 true 1:=⟨sh_203⟩
instance :Siz Tryz.prog 203 1:=⟨sz_203⟩
@[push_cast] theorem al_3 (wb:World) (L:Own) (K:Value→Own→Prop):AllocX Tryz.prog 3 wb L (tag K)=NewX wb L (.cells #[.int .i64 0] 3 (0,0)) (tag fun b L=>K (.pointer (some ⟨b,0,none⟩)) L):=allocX_eq (z:=.int .i64 0) (by kernel_rfl) wb L K
@[push_cast] theorem al_24 (wb:World) (L:Own) (K:Value→Own→Prop):AllocX Tryz.prog 24 wb L (tag K)=NewX wb L (.cells #[.int .i64 0,.int .i64 0,.int .i64 0,.int .i64 0,.slice none 0 0] 24 (0,0)) (tag fun b L=>K (.pointer (some ⟨b,0,none⟩)) L):=allocX_eq (z:=.agg #[.int .i64 0,.int .i64 0,.int .i64 0,.int .i64 0,.slice none 0 0]) (by kernel_rfl) wb L K
@[push_cast] theorem al_26 (wb:World) (L:Own) (K:Value→Own→Prop):AllocX Tryz.prog 26 wb L (tag K)=NewX wb L (.cells #[.string ⟨#[]⟩,.bool false,.int .i64 0,.int .i64 0,.int .i64 0,.int .i64 0,.slice none 0 0] 26 (0,0)) (tag fun b L=>K (.pointer (some ⟨b,0,none⟩)) L):=allocX_eq (z:=.agg #[.string ⟨#[]⟩,.bool false,.int .i64 0,.int .i64 0,.int .i64 0,.int .i64 0,.slice none 0 0]) (by kernel_rfl) wb L K
@[push_cast] theorem al_29 (wb:World) (L:Own) (K:Value→Own→Prop):AllocX Tryz.prog 29 wb L (tag K)=NewX wb L (.cells #[.bool false,.int .i64 0,.string ⟨#[]⟩,.slice none 0 0] 29 (0,0)) (tag fun b L=>K (.pointer (some ⟨b,0,none⟩)) L):=allocX_eq (z:=.agg #[.bool false,.int .i64 0,.string ⟨#[]⟩,.slice none 0 0]) (by kernel_rfl) wb L K
@[push_cast] theorem al_30 (wb:World) (L:Own) (K:Value→Own→Prop):AllocX Tryz.prog 30 wb L (tag K)=NewX wb L (.cells #[.int .i64 0] 30 (0,0)) (tag fun b L=>K (.pointer (some ⟨b,0,none⟩)) L):=allocX_eq (z:=.int .i64 0) (by kernel_rfl) wb L K
@[push_cast] theorem al_56 (wb:World) (L:Own) (K:Value→Own→Prop):AllocX Tryz.prog 56 wb L (tag K)=NewX wb L (.cells #[.pointer none,.slice none 0 0] 56 (0,0)) (tag fun b L=>K (.pointer (some ⟨b,0,none⟩)) L):=allocX_eq (z:=.agg #[.pointer none,.slice none 0 0]) (by kernel_rfl) wb L K
@[push_cast] theorem al_70 (wb:World) (L:Own) (K:Value→Own→Prop):AllocX Tryz.prog 70 wb L (tag K)=NewX wb L (.cells #[.int .i64 0,.int .i64 0] 70 (0,0)) (tag fun b L=>K (.pointer (some ⟨b,0,none⟩)) L):=allocX_eq (z:=.agg #[.int .i64 0,.int .i64 0]) (by kernel_rfl) wb L K
@[push_cast] theorem al_85 (wb:World) (L:Own) (K:Value→Own→Prop):AllocX Tryz.prog 85 wb L (tag K)=NewX wb L (.cells #[.int .i64 0,.slice none 0 0,.int .i64 0] 85 (0,0)) (tag fun b L=>K (.pointer (some ⟨b,0,none⟩)) L):=allocX_eq (z:=.agg #[.int .i64 0,.slice none 0 0,.int .i64 0]) (by kernel_rfl) wb L K
@[push_cast] theorem al_139 (wb:World) (L:Own) (K:Value→Own→Prop):AllocX Tryz.prog 139 wb L (tag K)=NewX wb L (.cells #[.string ⟨#[]⟩,.string ⟨#[]⟩] 139 (0,0)) (tag fun b L=>K (.pointer (some ⟨b,0,none⟩)) L):=allocX_eq (z:=.agg #[.string ⟨#[]⟩,.string ⟨#[]⟩]) (by kernel_rfl) wb L K
@[push_cast] theorem al_140 (wb:World) (L:Own) (K:Value→Own→Prop):AllocX Tryz.prog 140 wb L (tag K)=NewX wb L (.cells #[.map none] 140 (0,0)) (tag fun b L=>K (.pointer (some ⟨b,0,none⟩)) L):=allocX_eq (z:=.map none) (by kernel_rfl) wb L K
@[push_cast] theorem al_145 (wb:World) (L:Own) (K:Value→Own→Prop):AllocX Tryz.prog 145 wb L (tag K)=NewX wb L (.cells #[.slice none 0 0,.slice none 0 0,.string ⟨#[]⟩,.bool false,.int .i64 0,.int .i64 0,.int .i64 0,.int .i64 0,.slice none 0 0,.bool false] 145 (0,0)) (tag fun b L=>K (.pointer (some ⟨b,0,none⟩)) L):=allocX_eq (z:=.agg #[.slice none 0 0,.slice none 0 0,.string ⟨#[]⟩,.bool false,.int .i64 0,.int .i64 0,.int .i64 0,.int .i64 0,.slice none 0 0,.bool false]) (by kernel_rfl) wb L K
@[push_cast] theorem al_165 (wb:World) (L:Own) (K:Value→Own→Prop):AllocX Tryz.prog 165 wb L (tag K)=NewX wb L (.cells #[.slice none 0 0,.string ⟨#[]⟩,.bool false,.int .i64 0,.int .i64 0,.int .i64 0,.int .i64 0,.slice none 0 0,.slice none 0 0,.bool false] 165 (0,0)) (tag fun b L=>K (.pointer (some ⟨b,0,none⟩)) L):=allocX_eq (z:=.agg #[.slice none 0 0,.string ⟨#[]⟩,.bool false,.int .i64 0,.int .i64 0,.int .i64 0,.int .i64 0,.slice none 0 0,.slice none 0 0,.bool false]) (by kernel_rfl) wb L K
@[push_cast] theorem al_174 (wb:World) (L:Own) (K:Value→Own→Prop):AllocX Tryz.prog 174 wb L (tag K)=NewX wb L (.cells #[.nilFunc] 174 (0,0)) (tag fun b L=>K (.pointer (some ⟨b,0,none⟩)) L):=allocX_eq (z:=.nilFunc) (by kernel_rfl) wb L K
theorem un_22:Tryz.prog.underlying 22=some (.slice 26):=by kernel_rfl
theorem ez_22:(Tryz.prog.info? 26).map (·.size)=some 7:=by kernel_rfl
@[push_cast] theorem ix_22 (b off n c:Nat) (k:IntKind) (i:Int) (h0:0≤i) (h1:i < n):PureX Tryz.prog (Instr.indexAt 22 (.slice (some ⟨b,off,none⟩) n c) (.int k i)) (tag K)=K (.pointer (some ⟨b,off+i.toNat * 7,none⟩)):=idxS b off n c k un_22 ez_22 i h0 h1
@[push_cast] theorem sHi_22 (b off n c:Nat) (k:IntKind) (i:Int) (h0:0≤i) (h1:i≤c):PureX Tryz.prog (Instr.sliceAt 22 (.slice (some ⟨b,off,none⟩) n c) none (some (.int k i)) none) (tag K)=K (.slice (some ⟨b,off,none⟩) i.toNat c):=slHi n c k un_22 ez_22 i _ (fun x h=>by cases h; rfl) h0 h1
theorem un_27:Tryz.prog.underlying 27=some (.slice 29):=by kernel_rfl
theorem ez_27:(Tryz.prog.info? 29).map (·.size)=some 4:=by kernel_rfl
@[push_cast] theorem ix_27 (b off n c:Nat) (k:IntKind) (i:Int) (h0:0≤i) (h1:i < n):PureX Tryz.prog (Instr.indexAt 27 (.slice (some ⟨b,off,none⟩) n c) (.int k i)) (tag K)=K (.pointer (some ⟨b,off+i.toNat * 4,none⟩)):=idxS b off n c k un_27 ez_27 i h0 h1
@[push_cast] theorem sHi_27 (b off n c:Nat) (k:IntKind) (i:Int) (h0:0≤i) (h1:i≤c):PureX Tryz.prog (Instr.sliceAt 27 (.slice (some ⟨b,off,none⟩) n c) none (some (.int k i)) none) (tag K)=K (.slice (some ⟨b,off,none⟩) i.toNat c):=slHi n c k un_27 ez_27 i _ (fun x h=>by cases h; rfl) h0 h1
theorem un_40:Tryz.prog.underlying 40=some (.slice 27):=by kernel_rfl
theorem ez_40:(Tryz.prog.info? 27).map (·.size)=some 1:=by kernel_rfl
@[push_cast] theorem ix_40 (b off n c:Nat) (k:IntKind) (i:Int) (h0:0≤i) (h1:i < n):PureX Tryz.prog (Instr.indexAt 40 (.slice (some ⟨b,off,none⟩) n c) (.int k i)) (tag K)=K (.pointer (some ⟨b,off+i.toNat * 1,none⟩)):=idxS b off n c k un_40 ez_40 i h0 h1
theorem un_54:Tryz.prog.underlying 54=some (.slice 5):=by kernel_rfl
theorem ez_54:(Tryz.prog.info? 5).map (·.size)=some 1:=by kernel_rfl
@[push_cast] theorem ix_54 (b off n c:Nat) (k:IntKind) (i:Int) (h0:0≤i) (h1:i < n):PureX Tryz.prog (Instr.indexAt 54 (.slice (some ⟨b,off,none⟩) n c) (.int k i)) (tag K)=K (.pointer (some ⟨b,off+i.toNat * 1,none⟩)):=idxS b off n c k un_54 ez_54 i h0 h1
theorem un_76:Tryz.prog.underlying 76=some (.slice 3):=by kernel_rfl
theorem ez_76:(Tryz.prog.info? 3).map (·.size)=some 1:=by kernel_rfl
@[push_cast] theorem ix_76 (b off n c:Nat) (k:IntKind) (i:Int) (h0:0≤i) (h1:i < n):PureX Tryz.prog (Instr.indexAt 76 (.slice (some ⟨b,off,none⟩) n c) (.int k i)) (tag K)=K (.pointer (some ⟨b,off+i.toNat * 1,none⟩)):=idxS b off n c k un_76 ez_76 i h0 h1
@[push_cast] theorem sLo_76 (b off n c:Nat) (k:IntKind) (i:Int) (h0:0≤i) (h1:i≤n):PureX Tryz.prog (Instr.sliceAt 76 (.slice (some ⟨b,off,none⟩) n c) (some (.int k i)) none none) (tag K)=K (.slice (some ⟨b,if c=i.toNat then off else off+i.toNat * 1,none⟩) (n - i.toNat) (c - i.toNat)):=slLo b off n c k un_76 ez_76 i h0 h1
theorem un_112:Tryz.prog.underlying 112=some (.slice 139):=by kernel_rfl
theorem ez_112:(Tryz.prog.info? 139).map (·.size)=some 2:=by kernel_rfl
@[push_cast] theorem ix_112 (b off n c:Nat) (k:IntKind) (i:Int) (h0:0≤i) (h1:i < n):PureX Tryz.prog (Instr.indexAt 112 (.slice (some ⟨b,off,none⟩) n c) (.int k i)) (tag K)=K (.pointer (some ⟨b,off+i.toNat * 2,none⟩)):=idxS b off n c k un_112 ez_112 i h0 h1
theorem un_161:Tryz.prog.underlying 161=some (.slice 165):=by kernel_rfl
theorem ez_161:(Tryz.prog.info? 165).map (·.size)=some 10:=by kernel_rfl
@[push_cast] theorem ix_161 (b off n c:Nat) (k:IntKind) (i:Int) (h0:0≤i) (h1:i < n):PureX Tryz.prog (Instr.indexAt 161 (.slice (some ⟨b,off,none⟩) n c) (.int k i)) (tag K)=K (.pointer (some ⟨b,off+i.toNat * 10,none⟩)):=idxS b off n c k un_161 ez_161 i h0 h1
@[push_cast] theorem sHi_161 (b off n c:Nat) (k:IntKind) (i:Int) (h0:0≤i) (h1:i≤c):PureX Tryz.prog (Instr.sliceAt 161 (.slice (some ⟨b,off,none⟩) n c) none (some (.int k i)) none) (tag K)=K (.slice (some ⟨b,off,none⟩) i.toNat c):=slHi n c k un_161 ez_161 i _ (fun x h=>by cases h; rfl) h0 h1
theorem ua_193:Tryz.prog.underlying 193=some (.array 21 192):=by kernel_rfl
theorem ez_193:(Tryz.prog.info? 192).map (·.size)=some 4:=by kernel_rfl
@[push_cast] theorem ix_193 (b off:Nat) (k:IntKind) (i:Int) (h0:0≤i) (h1:i < (21:Nat)):PureX Tryz.prog (Instr.indexAt 193 (.pointer (some ⟨b,off,none⟩)) (.int k i)) (tag K)=K (.pointer (some ⟨b,off+i.toNat * 4,none⟩)):=idxA b off k ua_193 ez_193 i h0 h1
@[push_cast] theorem ln_9 (ty:TypeId) (l:List UInt8):PureX Tryz.prog (Builtin.len_ #[9] ty #[.string ⟨l.toArray⟩]) (tag K)=K (.int .i64 l.length):=px (fun w=>by kernel_rfl) K
@[push_cast] theorem ln_22 (ty:TypeId) (a:Option Addr) (n c:Nat):PureX Tryz.prog (Builtin.len_ #[22] ty #[.slice a n c]) (tag K)=K (.int .i64 n):=px (fun w=>by kernel_rfl) K
@[push_cast] theorem ln_27 (ty:TypeId) (a:Option Addr) (n c:Nat):PureX Tryz.prog (Builtin.len_ #[27] ty #[.slice a n c]) (tag K)=K (.int .i64 n):=px (fun w=>by kernel_rfl) K
@[push_cast] theorem ln_40 (ty:TypeId) (a:Option Addr) (n c:Nat):PureX Tryz.prog (Builtin.len_ #[40] ty #[.slice a n c]) (tag K)=K (.int .i64 n):=px (fun w=>by kernel_rfl) K
@[push_cast] theorem ln_41 (ty:TypeId) (a:Option Addr) (n c:Nat):PureX Tryz.prog (Builtin.len_ #[41] ty #[.slice a n c]) (tag K)=K (.int .i64 n):=px (fun w=>by kernel_rfl) K
@[push_cast] theorem ln_54 (ty:TypeId) (a:Option Addr) (n c:Nat):PureX Tryz.prog (Builtin.len_ #[54] ty #[.slice a n c]) (tag K)=K (.int .i64 n):=px (fun w=>by kernel_rfl) K
@[push_cast] theorem ln_76 (ty:TypeId) (a:Option Addr) (n c:Nat):PureX Tryz.prog (Builtin.len_ #[76] ty #[.slice a n c]) (tag K)=K (.int .i64 n):=px (fun w=>by kernel_rfl) K
@[push_cast] theorem ln_112 (ty:TypeId) (a:Option Addr) (n c:Nat):PureX Tryz.prog (Builtin.len_ #[112] ty #[.slice a n c]) (tag K)=K (.int .i64 n):=px (fun w=>by kernel_rfl) K
@[push_cast] theorem ln_161 (ty:TypeId) (a:Option Addr) (n c:Nat):PureX Tryz.prog (Builtin.len_ #[161] ty #[.slice a n c]) (tag K)=K (.int .i64 n):=px (fun w=>by kernel_rfl) K
theorem us_9:Tryz.prog.underlying 9=some .string:=by kernel_rfl
@[push_cast] theorem is_9 (l:List UInt8) (k:IntKind) (i:Int) (h0:0≤i) (h1:i < l.length):PureX Tryz.prog (Instr.index 9 (.string ⟨l.toArray⟩) (.int k i)) (tag K)=K (.int .u8 (l.getD i.toNat 0).toNat):=idxStr l k us_9 i h0 h1
@[push_cast] theorem ssLoHi_9 (l:List UInt8) (k:IntKind) (i j:Int) (h0:0≤i) (h1:i≤j) (h2:j≤l.length):PureX Tryz.prog (Instr.sliceAt 9 (.string ⟨l.toArray⟩) (some (.int k i)) (some (.int k j)) none) (tag K)=K (str ((l.take j.toNat).drop i.toNat)):=slStr l k us_9 i j h0 h1 h2
@[push_cast] theorem ssLo_9 (l:List UInt8) (k:IntKind) (i:Int) (h0:0≤i) (h1:i≤l.length):PureX Tryz.prog (Instr.sliceAt 9 (.string ⟨l.toArray⟩) (some (.int k i)) none none) (tag K)=K (str (l.drop i.toNat)):=slStrLo l k us_9 i h0 h1
@[push_cast] theorem ssHi_9 (l:List UInt8) (k:IntKind) (i:Int) (h0:0≤i) (h1:i≤l.length):PureX Tryz.prog (Instr.sliceAt 9 (.string ⟨l.toArray⟩) none (some (.int k i)) none) (tag K)=K (str (l.take i.toNat)):=slStrHi l k us_9 i h0 h1
theorem ub_4:Tryz.prog.underlying 4=some .bool:=by kernel_rfl
@[push_cast] theorem be_4 (x y:Operand) (a b:Bool):PureX Tryz.prog (binV .eql 4 x y (.bool a) (.bool b)) (tag K)=K (.bool (a == b)):=bin_bool_eql x y ub_4 a b
@[push_cast] theorem bn_4 (x y:Operand) (a b:Bool):PureX Tryz.prog (binV .neq 4 x y (.bool a) (.bool b)) (tag K)=K (.bool (a != b)):=bin_bool_neq x y ub_4 a b
@[push_cast] theorem bu_24_0 (x1:Int):PureX Tryz.prog (Instr.build 24 #[(0,.int .i64 x1)]) (tag K)=K (.agg #[.int .i64 x1,.int .i64 0,.int .i64 0,.int .i64 0,.slice none 0 0]):=px (fun w=>by kernel_rfl) K
@[push_cast] theorem bu_26_0_2 (x2:ByteArray) (x3 x4 x5 x6:Int) (x7a:Option Addr) (x7n x7c:Nat):PureX Tryz.prog (Instr.build 26 #[(0,.string x2),(2,.agg #[.int .i64 x3,.int .i64 x4,.int .i64 x5,.int .i64 x6,.slice x7a x7n x7c])]) (tag K)=K (.agg #[.string x2,.bool false,.int .i64 x3,.int .i64 x4,.int .i64 x5,.int .i64 x6,.slice x7a x7n x7c]):=px (fun w=>by kernel_rfl) K
@[push_cast] theorem bu_29_  : PureX Tryz.prog (Instr.build 29 #[]) (tag K)=K (.agg #[.bool false,.int .i64 0,.string ⟨#[]⟩,.slice none 0 0]):=px (fun w=>by kernel_rfl) K
@[push_cast] theorem bu_29_0 (x8:Bool):PureX Tryz.prog (Instr.build 29 #[(0,.bool x8)]) (tag K)=K (.agg #[.bool x8,.int .i64 0,.string ⟨#[]⟩,.slice none 0 0]):=px (fun w=>by kernel_rfl) K
@[push_cast] theorem bu_29_1 (x9:Int):PureX Tryz.prog (Instr.build 29 #[(1,.int .i64 x9)]) (tag K)=K (.agg #[.bool false,.int .i64 x9,.string ⟨#[]⟩,.slice none 0 0]):=px (fun w=>by kernel_rfl) K
@[push_cast] theorem bu_29_1_3 (x10:Int) (x11a:Option Addr) (x11n x11c:Nat):PureX Tryz.prog (Instr.build 29 #[(1,.int .i64 x10),(3,.slice x11a x11n x11c)]) (tag K)=K (.agg #[.bool false,.int .i64 x10,.string ⟨#[]⟩,.slice x11a x11n x11c]):=px (fun w=>by kernel_rfl) K
@[push_cast] theorem bu_29_2 (x12:ByteArray):PureX Tryz.prog (Instr.build 29 #[(2,.string x12)]) (tag K)=K (.agg #[.bool false,.int .i64 0,.string x12,.slice none 0 0]):=px (fun w=>by kernel_rfl) K
@[push_cast] theorem bu_29_3 (x13a:Option Addr) (x13n x13c:Nat):PureX Tryz.prog (Instr.build 29 #[(3,.slice x13a x13n x13c)]) (tag K)=K (.agg #[.bool false,.int .i64 0,.string ⟨#[]⟩,.slice x13a x13n x13c]):=px (fun w=>by kernel_rfl) K
@[push_cast] theorem bu_43_  : PureX Tryz.prog (Instr.build 43 #[]) (tag K)=K (.agg #[.slice none 0 0,.slice none 0 0,.slice none 0 0,.slice none 0 0]):=px (fun w=>by kernel_rfl) K
@[push_cast] theorem bu_58_  : PureX Tryz.prog (Instr.build 58 #[]) (tag K)=K (.agg #[.pointer none,.slice none 0 0]):=px (fun w=>by kernel_rfl) K
@[push_cast] theorem bu_66_0 (x14:ByteArray):PureX Tryz.prog (Instr.build 66 #[(0,.string x14)]) (tag K)=K (.agg #[.string x14,.int .i64 0,.int .i64 0,.int .i64 0]):=px (fun w=>by kernel_rfl) K
@[push_cast] theorem bu_70_0_1 (x15 x16:Int):PureX Tryz.prog (Instr.build 70 #[(0,.int .i64 x15),(1,.int .i64 x16)]) (tag K)=K (.agg #[.int .i64 x15,.int .i64 x16]):=px (fun w=>by kernel_rfl) K
@[push_cast] theorem bu_74_0 (x17:ByteArray):PureX Tryz.prog (Instr.build 74 #[(0,.string x17)]) (tag K)=K (.agg #[.string x17,.int .i64 0]):=px (fun w=>by kernel_rfl) K
@[push_cast] theorem bu_85_  : PureX Tryz.prog (Instr.build 85 #[]) (tag K)=K (.agg #[.int .i64 0,.slice none 0 0,.int .i64 0]):=px (fun w=>by kernel_rfl) K
@[push_cast] theorem bu_85_0_1 (x18:Int) (x19a:Option Addr) (x19n x19c:Nat):PureX Tryz.prog (Instr.build 85 #[(0,.int .i64 x18),(1,.slice x19a x19n x19c)]) (tag K)=K (.agg #[.int .i64 x18,.slice x19a x19n x19c,.int .i64 0]):=px (fun w=>by kernel_rfl) K
@[push_cast] theorem bu_85_0_2 (x20 x21:Int):PureX Tryz.prog (Instr.build 85 #[(0,.int .i64 x20),(2,.int .i64 x21)]) (tag K)=K (.agg #[.int .i64 x20,.slice none 0 0,.int .i64 x21]):=px (fun w=>by kernel_rfl) K
@[push_cast] theorem bu_89_0 (x22:Int):PureX Tryz.prog (Instr.build 89 #[(0,.int .i64 x22)]) (tag K)=K (.agg #[.int .i64 x22]):=px (fun w=>by kernel_rfl) K
@[push_cast] theorem bu_114_0 (x23a:Option Addr) (x23n x23c:Nat):PureX Tryz.prog (Instr.build 114 #[(0,.slice x23a x23n x23c)]) (tag K)=K (.agg #[.slice x23a x23n x23c,.slice none 0 0]):=px (fun w=>by kernel_rfl) K
@[push_cast] theorem bu_145_0_1_2_3 (x24a x25a x32a:Option Addr) (x24n x24c x25n x25c x32n x32c:Nat) (x26:ByteArray) (x27 x33:Bool) (x28 x29 x30 x31:Int):PureX Tryz.prog (Instr.build 145 #[(0,.slice x24a x24n x24c),(1,.slice x25a x25n x25c),(2,.agg #[.string x26,.bool x27,.int .i64 x28,.int .i64 x29,.int .i64 x30,.int .i64 x31,.slice x32a x32n x32c]),(3,.bool x33)]) (tag K)=K (.agg #[.slice x24a x24n x24c,.slice x25a x25n x25c,.string x26,.bool x27,.int .i64 x28,.int .i64 x29,.int .i64 x30,.int .i64 x31,.slice x32a x32n x32c,.bool x33]):=px (fun w=>by kernel_rfl) K
@[push_cast] theorem bu_165_0_1_2_3 (x36a x43a x44a:Option Addr) (x36n x36c x43n x43c x44n x44c:Nat) (x37:ByteArray) (x38 x45:Bool) (x39 x40 x41 x42:Int):PureX Tryz.prog (Instr.build 165 #[(0,.slice x36a x36n x36c),(1,.agg #[.string x37,.bool x38,.int .i64 x39,.int .i64 x40,.int .i64 x41,.int .i64 x42,.slice x43a x43n x43c]),(2,.slice x44a x44n x44c),(3,.bool x45)]) (tag K)=K (.agg #[.slice x36a x36n x36c,.string x37,.bool x38,.int .i64 x39,.int .i64 x40,.int .i64 x41,.int .i64 x42,.slice x43a x43n x43c,.slice x44a x44n x44c,.bool x45]):=px (fun w=>by kernel_rfl) K
@[push_cast] theorem fi_85_0 (x54 x56:Int) (x55a:Option Addr) (x55n x55c:Nat):PureX Tryz.prog (Instr.field 85 (.agg #[.int .i64 x54,.slice x55a x55n x55c,.int .i64 x56]) 0) (tag K)=K (.int .i64 x54):=px (fun w=>by kernel_rfl) K
@[push_cast] theorem mi_70 (x:Value):PureX Tryz.prog (Instr.makeInterface 70 x) (tag K)=K (.iface 70 x):=px (fun w=>by kernel_rfl) K
@[push_cast] theorem mi_185 (x:Value):PureX Tryz.prog (Instr.makeInterface 185 x) (tag K)=K (.iface 185 x):=px (fun w=>by kernel_rfl) K
@[push_cast] theorem cv_2_80 (n:Int):PureX Tryz.prog (convert 2 80 (.int .i64 n)) (tag K)=K (.int .u64 (IntKind.u64.wrap n)):=px (fun w=>by kernel_rfl) K
@[push_cast] theorem cv_3_5 (n:Int):PureX Tryz.prog (convert 3 5 (.int .i64 n)) (tag K)=K (.int .u8 (IntKind.u8.wrap n)):=px (fun w=>by kernel_rfl) K
@[push_cast] theorem cv_3_80 (n:Int):PureX Tryz.prog (convert 3 80 (.int .i64 n)) (tag K)=K (.int .u64 (IntKind.u64.wrap n)):=px (fun w=>by kernel_rfl) K
@[push_cast] theorem cv_3_109 (n:Int):PureX Tryz.prog (convert 3 109 (.int .i64 n)) (tag K)=K (.int .u64 (IntKind.u64.wrap n)):=px (fun w=>by kernel_rfl) K
@[push_cast] theorem cv_5_3 (n:Int):PureX Tryz.prog (convert 5 3 (.int .u8 n)) (tag K)=K (.int .i64 (IntKind.i64.wrap n)):=px (fun w=>by kernel_rfl) K
@[push_cast] theorem cv_5_80 (n:Int):PureX Tryz.prog (convert 5 80 (.int .u8 n)) (tag K)=K (.int .u64 (IntKind.u64.wrap n)):=px (fun w=>by kernel_rfl) K
@[push_cast] theorem cv_80_2 (n:Int):PureX Tryz.prog (convert 80 2 (.int .u64 n)) (tag K)=K (.int .i64 (IntKind.i64.wrap n)):=px (fun w=>by kernel_rfl) K
@[push_cast] theorem cv_80_3 (n:Int):PureX Tryz.prog (convert 80 3 (.int .u64 n)) (tag K)=K (.int .i64 (IntKind.i64.wrap n)):=px (fun w=>by kernel_rfl) K
theorem bs_22_1 {y57:ByteArray} {y58:Bool} {y59 y60 y61 y62:Int} {y63a:Option Addr} {y63n y63c:Nat} {wb:World} {L:Own} {K:Value→World→Own→Prop} (h:NewX wb L (.cells #[.string y57,.bool y58,.int .i64 y59,.int .i64 y60,.int .i64 y61,.int .i64 y62,.slice y63a y63n y63c] 26 (0,0)) (tag fun b L=>K (.slice (some ⟨b,0,none⟩) 1 1) wb L)):ValX Tryz.prog (Instr.buildSlice 22 1 #[(0,.agg #[.string y57,.bool y58,.int .i64 y59,.int .i64 y60,.int .i64 y61,.int .i64 y62,.slice y63a y63n y63c])]) wb L (tag K):=valX_new (fun w=>by kernel_rfl) h
theorem bs_27_1 {y99:Bool} {y100:Int} {y101:ByteArray} {y102a:Option Addr} {y102n y102c:Nat} {wb:World} {L:Own} {K:Value→World→Own→Prop} (h:NewX wb L (.cells #[.bool y99,.int .i64 y100,.string y101,.slice y102a y102n y102c] 29 (0,0)) (tag fun b L=>K (.slice (some ⟨b,0,none⟩) 1 1) wb L)):ValX Tryz.prog (Instr.buildSlice 27 1 #[(0,.agg #[.bool y99,.int .i64 y100,.string y101,.slice y102a y102n y102c])]) wb L (tag K):=valX_new (fun w=>by kernel_rfl) h
theorem bs_40_1 {y123a:Option Addr} {y123n y123c:Nat} {wb:World} {L:Own} {K:Value→World→Own→Prop} (h:NewX wb L (.cells #[.slice y123a y123n y123c] 27 (0,0)) (tag fun b L=>K (.slice (some ⟨b,0,none⟩) 1 1) wb L)):ValX Tryz.prog (Instr.buildSlice 40 1 #[(0,.slice y123a y123n y123c)]) wb L (tag K):=valX_new (fun w=>by kernel_rfl) h
theorem bs_54_1 {y135:Int} {wb:World} {L:Own} {K:Value→World→Own→Prop} (h:NewX wb L (.cells #[.int .u8 y135] 5 (0,0)) (tag fun b L=>K (.slice (some ⟨b,0,none⟩) 1 1) wb L)):ValX Tryz.prog (Instr.buildSlice 54 1 #[(0,.int .u8 y135)]) wb L (tag K):=valX_new (fun w=>by kernel_rfl) h
theorem bs_54_2 {y136 y137:Int} {wb:World} {L:Own} {K:Value→World→Own→Prop} (h:NewX wb L (.cells #[.int .u8 y136,.int .u8 y137] 5 (0,0)) (tag fun b L=>K (.slice (some ⟨b,0,none⟩) 2 2) wb L)):ValX Tryz.prog (Instr.buildSlice 54 2 #[(0,.int .u8 y136),(1,.int .u8 y137)]) wb L (tag K):=valX_new (fun w=>by kernel_rfl) h
theorem bs_76_1 {y141:Int} {wb:World} {L:Own} {K:Value→World→Own→Prop} (h:NewX wb L (.cells #[.int .i64 y141] 3 (0,0)) (tag fun b L=>K (.slice (some ⟨b,0,none⟩) 1 1) wb L)):ValX Tryz.prog (Instr.buildSlice 76 1 #[(0,.int .i64 y141)]) wb L (tag K):=valX_new (fun w=>by kernel_rfl) h
theorem bs_161_1 {y147a y154a y155a:Option Addr} {y147n y147c y154n y154c y155n y155c:Nat} {y148:ByteArray} {y149 y156:Bool} {y150 y151 y152 y153:Int} {wb:World} {L:Own} {K:Value→World→Own→Prop} (h:NewX wb L (.cells #[.slice y147a y147n y147c,.string y148,.bool y149,.int .i64 y150,.int .i64 y151,.int .i64 y152,.int .i64 y153,.slice y154a y154n y154c,.slice y155a y155n y155c,.bool y156] 165 (0,0)) (tag fun b L=>K (.slice (some ⟨b,0,none⟩) 1 1) wb L)):ValX Tryz.prog (Instr.buildSlice 161 1 #[(0,.agg #[.slice y147a y147n y147c,.string y148,.bool y149,.int .i64 y150,.int .i64 y151,.int .i64 y152,.int .i64 y153,.slice y154a y154n y154c,.slice y155a y155n y155c,.bool y156])]) wb L (tag K):=valX_new (fun w=>by kernel_rfl) h
theorem en_5:entersB Tryz.prog 5=true:=entersB_of Tryz.func5 (by kernel_rfl)
theorem en_6:entersB Tryz.prog 6=true:=entersB_of Tryz.func6 (by kernel_rfl)
theorem en_7:entersB Tryz.prog 7=true:=entersB_of Tryz.func7 (by kernel_rfl)
theorem en_8:entersB Tryz.prog 8=true:=entersB_of Tryz.func8 (by kernel_rfl)
theorem en_9:entersB Tryz.prog 9=true:=entersB_of Tryz.func9 (by kernel_rfl)
theorem en_10:entersB Tryz.prog 10=true:=entersB_of Tryz.func10 (by kernel_rfl)
theorem en_11:entersB Tryz.prog 11=true:=entersB_of Tryz.func11 (by kernel_rfl)
theorem en_12:entersB Tryz.prog 12=true:=entersB_of Tryz.func12 (by kernel_rfl)
theorem en_13:entersB Tryz.prog 13=true:=entersB_of Tryz.func13 (by kernel_rfl)
theorem en_14:entersB Tryz.prog 14=true:=entersB_of Tryz.func14 (by kernel_rfl)
theorem en_15:entersB Tryz.prog 15=true:=entersB_of Tryz.func15 (by kernel_rfl)
theorem en_17:entersB Tryz.prog 17=true:=entersB_of Tryz.func17 (by kernel_rfl)
theorem en_18:entersB Tryz.prog 18=true:=entersB_of Tryz.func18 (by kernel_rfl)
theorem en_19:entersB Tryz.prog 19=true:=entersB_of Tryz.func19 (by kernel_rfl)
theorem en_20:entersB Tryz.prog 20=true:=entersB_of Tryz.func20 (by kernel_rfl)
theorem en_21:entersB Tryz.prog 21=true:=entersB_of Tryz.func21 (by kernel_rfl)
theorem en_22:entersB Tryz.prog 22=true:=entersB_of Tryz.func22 (by kernel_rfl)
theorem en_23:entersB Tryz.prog 23=true:=entersB_of Tryz.func23 (by kernel_rfl)
theorem en_24:entersB Tryz.prog 24=true:=entersB_of Tryz.func24 (by kernel_rfl)
theorem en_25:entersB Tryz.prog 25=true:=entersB_of Tryz.func25 (by kernel_rfl)
theorem en_26:entersB Tryz.prog 26=true:=entersB_of Tryz.func26 (by kernel_rfl)
theorem en_27:entersB Tryz.prog 27=true:=entersB_of Tryz.func27 (by kernel_rfl)
theorem en_28:entersB Tryz.prog 28=true:=entersB_of Tryz.func28 (by kernel_rfl)
theorem en_29:entersB Tryz.prog 29=true:=entersB_of Tryz.func29 (by kernel_rfl)
theorem en_30:entersB Tryz.prog 30=true:=entersB_of Tryz.func30 (by kernel_rfl)
theorem en_31:entersB Tryz.prog 31=true:=entersB_of Tryz.func31 (by kernel_rfl)
theorem en_32:entersB Tryz.prog 32=true:=entersB_of Tryz.func32 (by kernel_rfl)
theorem en_33:entersB Tryz.prog 33=true:=entersB_of Tryz.func33 (by kernel_rfl)
theorem en_34:entersB Tryz.prog 34=true:=entersB_of Tryz.func34 (by kernel_rfl)
theorem en_35:entersB Tryz.prog 35=true:=entersB_of Tryz.func35 (by kernel_rfl)
theorem en_37:entersB Tryz.prog 37=true:=entersB_of Tryz.func37 (by kernel_rfl)
theorem en_38:entersB Tryz.prog 38=true:=entersB_of Tryz.func38 (by kernel_rfl)
theorem en_39:entersB Tryz.prog 39=true:=entersB_of Tryz.func39 (by kernel_rfl)
theorem en_40:entersB Tryz.prog 40=true:=entersB_of Tryz.func40 (by kernel_rfl)
theorem en_41:entersB Tryz.prog 41=true:=entersB_of Tryz.func41 (by kernel_rfl)
theorem en_42:entersB Tryz.prog 42=true:=entersB_of Tryz.func42 (by kernel_rfl)
theorem en_43:entersB Tryz.prog 43=true:=entersB_of Tryz.func43 (by kernel_rfl)
theorem en_44:entersB Tryz.prog 44=true:=entersB_of Tryz.func44 (by kernel_rfl)
theorem en_45:entersB Tryz.prog 45=true:=entersB_of Tryz.func45 (by kernel_rfl)
theorem en_46:entersB Tryz.prog 46=true:=entersB_of Tryz.func46 (by kernel_rfl)
theorem en_47:entersB Tryz.prog 47=true:=entersB_of Tryz.func47 (by kernel_rfl)
theorem en_48:entersB Tryz.prog 48=true:=entersB_of Tryz.func48 (by kernel_rfl)
theorem en_49:entersB Tryz.prog 49=true:=entersB_of Tryz.func49 (by kernel_rfl)
theorem en_50:entersB Tryz.prog 50=true:=entersB_of Tryz.func50 (by kernel_rfl)
theorem en_51:entersB Tryz.prog 51=true:=entersB_of Tryz.func51 (by kernel_rfl)
theorem en_52:entersB Tryz.prog 52=true:=entersB_of Tryz.func52 (by kernel_rfl)
theorem en_53:entersB Tryz.prog 53=true:=entersB_of Tryz.func53 (by kernel_rfl)
theorem en_54:entersB Tryz.prog 54=true:=entersB_of Tryz.func54 (by kernel_rfl)
theorem en_55:entersB Tryz.prog 55=true:=entersB_of Tryz.func55 (by kernel_rfl)
theorem en_56:entersB Tryz.prog 56=true:=entersB_of Tryz.func56 (by kernel_rfl)
theorem en_57:entersB Tryz.prog 57=true:=entersB_of Tryz.func57 (by kernel_rfl)
theorem en_58:entersB Tryz.prog 58=true:=entersB_of Tryz.func58 (by kernel_rfl)
theorem en_59:entersB Tryz.prog 59=true:=entersB_of Tryz.func59 (by kernel_rfl)
theorem en_60:entersB Tryz.prog 60=true:=entersB_of Tryz.func60 (by kernel_rfl)
theorem en_61:entersB Tryz.prog 61=true:=entersB_of Tryz.func61 (by kernel_rfl)
theorem en_62:entersB Tryz.prog 62=true:=entersB_of Tryz.func62 (by kernel_rfl)
theorem en_63:entersB Tryz.prog 63=true:=entersB_of Tryz.func63 (by kernel_rfl)
theorem en_64:entersB Tryz.prog 64=true:=entersB_of Tryz.func64 (by kernel_rfl)
theorem en_65:entersB Tryz.prog 65=true:=entersB_of Tryz.func65 (by kernel_rfl)
theorem en_66:entersB Tryz.prog 66=true:=entersB_of Tryz.func66 (by kernel_rfl)
theorem en_67:entersB Tryz.prog 67=true:=entersB_of Tryz.func67 (by kernel_rfl)
theorem en_68:entersB Tryz.prog 68=true:=entersB_of Tryz.func68 (by kernel_rfl)
theorem en_69:entersB Tryz.prog 69=true:=entersB_of Tryz.func69 (by kernel_rfl)
theorem en_70:entersB Tryz.prog 70=true:=entersB_of Tryz.func70 (by kernel_rfl)
theorem en_71:entersB Tryz.prog 71=true:=entersB_of Tryz.func71 (by kernel_rfl)
theorem en_72:entersB Tryz.prog 72=true:=entersB_of Tryz.func72 (by kernel_rfl)
theorem en_73:entersB Tryz.prog 73=true:=entersB_of Tryz.func73 (by kernel_rfl)
theorem en_74:entersB Tryz.prog 74=true:=entersB_of Tryz.func74 (by kernel_rfl)
theorem en_75:entersB Tryz.prog 75=true:=entersB_of Tryz.func75 (by kernel_rfl)
theorem en_76:entersB Tryz.prog 76=true:=entersB_of Tryz.func76 (by kernel_rfl)
theorem en_77:entersB Tryz.prog 77=true:=entersB_of Tryz.func77 (by kernel_rfl)
theorem en_78:entersB Tryz.prog 78=true:=entersB_of Tryz.func78 (by kernel_rfl)
theorem en_79:entersB Tryz.prog 79=true:=entersB_of Tryz.func79 (by kernel_rfl)
theorem en_80:entersB Tryz.prog 80=true:=entersB_of Tryz.func80 (by kernel_rfl)
theorem en_81:entersB Tryz.prog 81=true:=entersB_of Tryz.func81 (by kernel_rfl)
theorem en_82:entersB Tryz.prog 82=true:=entersB_of Tryz.func82 (by kernel_rfl)
theorem en_83:entersB Tryz.prog 83=true:=entersB_of Tryz.func83 (by kernel_rfl)
theorem en_84:entersB Tryz.prog 84=true:=entersB_of Tryz.func84 (by kernel_rfl)
theorem en_86:entersB Tryz.prog 86=true:=entersB_of Tryz.func86 (by kernel_rfl)
theorem en_87:entersB Tryz.prog 87=true:=entersB_of Tryz.func87 (by kernel_rfl)
theorem en_88:entersB Tryz.prog 88=true:=entersB_of Tryz.func88 (by kernel_rfl)
theorem en_90:entersB Tryz.prog 90=true:=entersB_of Tryz.func90 (by kernel_rfl)
theorem en_91:entersB Tryz.prog 91=true:=entersB_of Tryz.func91 (by kernel_rfl)
theorem en_92:entersB Tryz.prog 92=true:=entersB_of Tryz.func92 (by kernel_rfl)
theorem en_93:entersB Tryz.prog 93=true:=entersB_of Tryz.func93 (by kernel_rfl)
theorem en_94:entersB Tryz.prog 94=true:=entersB_of Tryz.func94 (by kernel_rfl)
theorem en_95:entersB Tryz.prog 95=true:=entersB_of Tryz.func95 (by kernel_rfl)
theorem en_96:entersB Tryz.prog 96=true:=entersB_of Tryz.func96 (by kernel_rfl)
theorem en_97:entersB Tryz.prog 97=true:=entersB_of Tryz.func97 (by kernel_rfl)
theorem en_98:entersB Tryz.prog 98=true:=entersB_of Tryz.func98 (by kernel_rfl)
theorem en_99:entersB Tryz.prog 99=true:=entersB_of Tryz.func99 (by kernel_rfl)
theorem en_100:entersB Tryz.prog 100=true:=entersB_of Tryz.func100 (by kernel_rfl)
theorem en_101:entersB Tryz.prog 101=true:=entersB_of Tryz.func101 (by kernel_rfl)
theorem en_102:entersB Tryz.prog 102=true:=entersB_of Tryz.func102 (by kernel_rfl)
theorem en_103:entersB Tryz.prog 103=true:=entersB_of Tryz.func103 (by kernel_rfl)
theorem en_104:entersB Tryz.prog 104=true:=entersB_of Tryz.func104 (by kernel_rfl)
theorem en_105:entersB Tryz.prog 105=true:=entersB_of Tryz.func105 (by kernel_rfl)
theorem en_106:entersB Tryz.prog 106=true:=entersB_of Tryz.func106 (by kernel_rfl)
theorem en_107:entersB Tryz.prog 107=true:=entersB_of Tryz.func107 (by kernel_rfl)
theorem en_108:entersB Tryz.prog 108=true:=entersB_of Tryz.func108 (by kernel_rfl)
theorem en_109:entersB Tryz.prog 109=true:=entersB_of Tryz.func109 (by kernel_rfl)
theorem en_110:entersB Tryz.prog 110=true:=entersB_of Tryz.func110 (by kernel_rfl)
theorem en_111:entersB Tryz.prog 111=true:=entersB_of Tryz.func111 (by kernel_rfl)
theorem en_112:entersB Tryz.prog 112=true:=entersB_of Tryz.func112 (by kernel_rfl)
theorem en_113:entersB Tryz.prog 113=true:=entersB_of Tryz.func113 (by kernel_rfl)
theorem en_115:entersB Tryz.prog 115=true:=entersB_of Tryz.func115 (by kernel_rfl)
theorem en_122:entersB Tryz.prog 122=true:=entersB_of Tryz.func122 (by kernel_rfl)
theorem en_123:entersB Tryz.prog 123=true:=entersB_of Tryz.func123 (by kernel_rfl)
theorem en_124:entersB Tryz.prog 124=true:=entersB_of Tryz.func124 (by kernel_rfl)
theorem en_127:entersB Tryz.prog 127=true:=entersB_of Tryz.func127 (by kernel_rfl)
theorem en_128:entersB Tryz.prog 128=true:=entersB_of Tryz.func128 (by kernel_rfl)
theorem en_129:entersB Tryz.prog 129=true:=entersB_of Tryz.func129 (by kernel_rfl)
theorem en_130:entersB Tryz.prog 130=true:=entersB_of Tryz.func130 (by kernel_rfl)
theorem en_131:entersB Tryz.prog 131=true:=entersB_of Tryz.func131 (by kernel_rfl)
theorem en_132:entersB Tryz.prog 132=true:=entersB_of Tryz.func132 (by kernel_rfl)
theorem en_133:entersB Tryz.prog 133=true:=entersB_of Tryz.func133 (by kernel_rfl)
theorem en_135:entersB Tryz.prog 135=true:=entersB_of Tryz.func135 (by kernel_rfl)
theorem en_136:entersB Tryz.prog 136=true:=entersB_of Tryz.func136 (by kernel_rfl)
theorem en_137:entersB Tryz.prog 137=true:=entersB_of Tryz.func137 (by kernel_rfl)
theorem en_138:entersB Tryz.prog 138=true:=entersB_of Tryz.func138 (by kernel_rfl)
theorem en_139:entersB Tryz.prog 139=true:=entersB_of Tryz.func139 (by kernel_rfl)
theorem en_140:entersB Tryz.prog 140=true:=entersB_of Tryz.func140 (by kernel_rfl)
theorem en_141:entersB Tryz.prog 141=true:=entersB_of Tryz.func141 (by kernel_rfl)
theorem en_142:entersB Tryz.prog 142=true:=entersB_of Tryz.func142 (by kernel_rfl)
theorem en_147:entersB Tryz.prog 147=true:=entersB_of Tryz.func147 (by kernel_rfl)
theorem en_148:entersB Tryz.prog 148=true:=entersB_of Tryz.func148 (by kernel_rfl)
theorem en_149:entersB Tryz.prog 149=true:=entersB_of Tryz.func149 (by kernel_rfl)
theorem en_150:entersB Tryz.prog 150=true:=entersB_of Tryz.func150 (by kernel_rfl)
theorem en_152:entersB Tryz.prog 152=true:=entersB_of Tryz.func152 (by kernel_rfl)
theorem en_154:entersB Tryz.prog 154=true:=entersB_of Tryz.func154 (by kernel_rfl)
theorem en_160:entersB Tryz.prog 160=true:=entersB_of Tryz.func160 (by kernel_rfl)
theorem en_161:entersB Tryz.prog 161=true:=entersB_of Tryz.func161 (by kernel_rfl)
theorem en_162:entersB Tryz.prog 162=true:=entersB_of Tryz.func162 (by kernel_rfl)
theorem en_165:entersB Tryz.prog 165=true:=entersB_of Tryz.func165 (by kernel_rfl)
theorem en_166:entersB Tryz.prog 166=true:=entersB_of Tryz.func166 (by kernel_rfl)
theorem en_167:entersB Tryz.prog 167=true:=entersB_of Tryz.func167 (by kernel_rfl)
abbrev qb0 (x0:Nat) (x1:Fld) (x2:Option Addr) (x3:Nat):Nat×Obj:=(x0,Obj.cells #[str x1.nm,.bool x1.nl,i64 x1.k,i64 x1.wd,i64 x1.id,i64 x1.ix,.slice x2 x1.sub.length x3] 26 (0,0))
abbrev qb1 (x0:Nat) (x1:Fld) (x2:Option Addr) (x3:Nat):Nat×Obj:=(x0,Obj.cells #[i64 x1.k,i64 x1.wd,i64 x1.id,i64 x1.ix,.slice x2 x1.sub.length x3] 24 (0,0))
abbrev qb2 (x0:Nat):Nat×Obj:=(x0,Obj.cells #[.bool false,i64 0,str [],.slice none 0 0] 29 (0,0))
abbrev qb3 (x0:Nat) (x1:Bool) (x2:Int) (x3:List UInt8) (x4:Option Addr) (x5:Nat) (x6:Nat):Nat×Obj:=(x0,Obj.cells #[.bool x1,i64 x2,str x3,.slice x4 x5 x6] 29 (0,0))
abbrev qb4 (x0:Nat) (x1:Int):Nat×Obj:=(x0,Obj.cells #[i64 x1] 3 (0,0))
abbrev qb5 (x0:Nat) (x1:Option Addr) (x2:Nat) (x3:Nat) (x4:Option Addr) (x5:Nat) (x6:Nat):Nat×Obj:=(x0,Obj.cells #[.slice x1 x2 x3,.slice x4 x5 x6] 114 (0,0))
abbrev qb6 (x0:Nat):Nat×Obj:=(x0,Obj.cells #[i64 0,.slice none 0 0,i64 0] 85 (0,0))
end Go.Proofs.YtilejcofleeeiaaGreatDoor
