/- YtilejcofleeeiaaGreatDoor: walks, part 15: the table of kinds, as the row lists it. -/
import Derived.Test.YtilejcofleeeiaaGreatDoorW84
import Derived.Test.YtilejcofleeeiaaGreatDoorRows
import Derived.Lib.LaidU8
namespace Go.Proofs.YtilejcofleeeiaaGreatDoor
open Go Go.K
set_option maxRecDepth 100000
set_option linter.unusedVariables false
set_option linter.unusedSimpArgs false
theorem says_list:(Rows.laid_colonnade_kind_says:DataW Unit)=.agg ((List.range 21).map fun i=>.agg [.lit (.string (saysWord i)),.lit (.int .i64 (saysWidth i)),.lit (.int .i64 (saysBufs i)),.lit (.bool (saysIdx i))]):=by kernel_rfl
theorem says_of_reads {w:World} (h:Lib.VarReads Tryz.prog w "colonnade/kind.says" Rows.laid_colonnade_kind_says):SaysAt w:=by
 obtain ⟨g,t,cs,fuel,p,hg,hty,hvar,hd⟩:=h
 obtain rfl:=Option.some.inj ((show Tryz.prog.globalNamed "colonnade/kind.says"=some 3 by kernel_rfl).symm.trans hg)
 obtain rfl:=Option.some.inj ((show (Tryz.prog.globals[3]?).map (·.type)=some 193 by kernel_rfl).symm.trans hty)
 have hblk:∃ ty fr,w.heap[3]?=some (.cells cs ty fr):=by
  unfold World.var? at hvar
  rw[hg] at hvar
  simp only[Option.bind_some] at hvar
  split at hvar
  ·rename_i cs' ty fr hb
   cases hvar
   exact ⟨ty,fr,hb⟩
  ·cases hvar
 obtain ⟨ty,fr,hb⟩:=hblk
 refine ⟨(Array.getElem?_eq_some_iff.1 hb).1,fun i hi=>⟨cs,ty,fr,hb,?_⟩⟩
 rw[says_list] at hd
 obtain ⟨fuel',d,q,hdi,he⟩:=Lib.array_elem ua_193 hd i hi
 simp only[List.getElem?_map,List.getElem?_range hi,Option.map_some,Option.some.injEq] at hdi
 subst hdi
 have c4:Tryz.prog.cellsOf 192=4:=by kernel_rfl
 rw[c4] at he
 generalize (cs.toList.drop (i * 4)).take 4=c at he
 obtain ⟨xs,n,rfl,hx,hl,hxl,hall⟩:=DataW.trod_struct Tryz.underlying192 he
 rw[c4] at hl
 obtain ⟨x0,x1,x2,x3,rfl⟩:∃ x0 x1 x2 x3,xs=[x0,x1,x2,x3]:=by
  match xs,hxl with
  | [x0,x1,x2,x3],_=>exact ⟨x0,x1,x2,x3,rfl⟩
 obtain ⟨v0,v1,v2,v3,rfl⟩:∃ v0 v1 v2 v3,c=[v0,v1,v2,v3]:=by
  match c,hl with
  | [v0,v1,v2,v3],_=>exact ⟨v0,v1,v2,v3,rfl⟩
 have s9:Tryz.prog.cellsOf 9=1:=by kernel_rfl
 have s3:Tryz.prog.cellsOf 3=1:=by kernel_rfl
 have s4:Tryz.prog.cellsOf 4=1:=by kernel_rfl
 have f0:DataW.trod (fun _=>()) Tryz.prog w 0 (fun _=>true) false n 9 (List.take (Tryz.prog.cellsOf 9) (List.drop 0 [v0,v1,v2,v3]))=some x0:=hall 0 _ rfl
 have f1:DataW.trod (fun _=>()) Tryz.prog w 0 (fun _=>true) false n 3 (List.take (Tryz.prog.cellsOf 3) (List.drop 1 [v0,v1,v2,v3]))=some x1:=hall 1 _ rfl
 have f2:DataW.trod (fun _=>()) Tryz.prog w 0 (fun _=>true) false n 3 (List.take (Tryz.prog.cellsOf 3) (List.drop 2 [v0,v1,v2,v3]))=some x2:=hall 2 _ rfl
 have f3:DataW.trod (fun _=>()) Tryz.prog w 0 (fun _=>true) false n 4 (List.take (Tryz.prog.cellsOf 4) (List.drop 3 [v0,v1,v2,v3]))=some x3:=hall 3 _ rfl
 simp only[s9,s3,s4,List.drop_zero,List.drop_succ_cons,List.take_succ_cons,List.take_zero,List.getElem?_cons_zero,List.getElem?_cons_succ] at f0 f1 f2 f3
 obtain ⟨t0,e0,rfl,_⟩:=DataW.trod_string Tryz.underlying9 f0
 obtain ⟨n1,e1,rfl,_⟩:=DataW.trod_int Tryz.underlying3 f1
 obtain ⟨n2,e2,rfl,_⟩:=DataW.trod_int Tryz.underlying3 f2
 obtain ⟨b3,e3,rfl⟩:=DataW.trod_bool Tryz.underlying4 f3
 have hx1:=congrArg Prod.fst hx
 simp only[List.map_cons,List.map_nil,DataW.agg.injEq,List.cons.injEq,DataW.lit.injEq,Lit.string.injEq,Lit.int.injEq,Lit.bool.injEq,true_and,and_true] at hx1 e0 e1 e2 e3
 obtain ⟨h0,h1,h2,h3⟩:=hx1
 subst e0; subst e1; subst e2; subst e3
 rw[h1,h2,h3,h0]
end Go.Proofs.YtilejcofleeeiaaGreatDoor
