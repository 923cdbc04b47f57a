/- YtilejcofleeeiaaGreatDoor: fields as cells: what is copied from list to list. -/
import Derived.Shelf.RegionOpenPlain
import Derived.Lib.Builder
import Derived.Lib.UnsafeStr
import Derived.WalkKit
import Derived.Laws.Externs
import Derived.Test.YtilejcofleeeiaaGreatDoorW223
namespace Go.Proofs.YtilejcofleeeiaaGreatDoor
open Go Go.K Go.RowKit
open Nat renaming reduceEqDiff → qE
open List renaming length_cons → qN, length_append → qA, mem_singleton → qS, length_nil → qO, getElem?_eq_getElem → qH
set_option maxRecDepth 100000
set_option linter.unusedVariables false
set_option linter.unusedSimpArgs false
set_option maxHeartbeats 4000000
theorem copyCheck_used (b:Nat) (w:World) (h0:w.cell? ⟨b,0,none⟩=some (.pointer (some ⟨b,0,none⟩))) :
 Calls Tryz.prog 84 #[.pointer (some ⟨b,0,none⟩)] w fun e w'=>e=.returned (.tuple #[])∧w'=w:=by
 obtain ⟨j,hj,_⟩:=Option.map_eq_some_iff.1 (show (Tryz.prog.info? 56).map (·.size)=some 2 by kernel_rfl)
 have t72:=Tryz.underlying56; have a72:=Tryz.isAgg56; have z72:=Tryz.sizeOf56; have v72:=Tryz.zeroValue56; have u72:=run_underlying Tryz.underlying56
 have t70:=Tryz.underlying53; have a70:=Tryz.isAgg53; have z70:=Tryz.sizeOf53; have v70:=Tryz.zeroValue53; have u70:=run_underlying Tryz.underlying53
 have t4:=Tryz.underlying4; have a4:=Tryz.isAgg4; have z4:=Tryz.sizeOf4; have v4:=Tryz.zeroValue4; have u4:=run_underlying Tryz.underlying4
 go_enter Tryz.func84,Tryz.ntmps84
 go_wp2
 rw[Lib.run_neq_ptr_same w _ Tryz.underlying53 hj]
 go_wp2
 go_end0
 exact ⟨rfl,rfl⟩
theorem copyCheck_fresh (T:TypeId) (hl:liesAt Tryz.prog Tryz.prog.depth T (2 / Tryz.prog.cellsOf T) 0 56 1=true) (b:Nat) (w:World) (h0:w.cell? ⟨b,0,none⟩=some (.pointer none)) (hsh:w.shape? b=some (T,2)) (hfz:w.frozen? ⟨b,0,none⟩=false) :
 Calls Tryz.prog 84 #[.pointer (some ⟨b,0,none⟩)] w fun e w'=>e=.returned (.tuple #[])∧w'=w.setCell ⟨b,0,none⟩ (.pointer (some ⟨b,0,none⟩)):=by
 obtain ⟨j,hj,hjs⟩:=Option.map_eq_some_iff.1 (show (Tryz.prog.info? 56).map (·.size)=some 2 by kernel_rfl)
 have t72:=Tryz.underlying56; have a72:=Tryz.isAgg56; have z72:=Tryz.sizeOf56; have v72:=Tryz.zeroValue56; have u72:=run_underlying Tryz.underlying56
 have t70:=Tryz.underlying53; have a70:=Tryz.isAgg53; have z70:=Tryz.sizeOf53; have v70:=Tryz.zeroValue53; have u70:=run_underlying Tryz.underlying53
 have t4:=Tryz.underlying4; have a4:=Tryz.isAgg4; have z4:=Tryz.sizeOf4; have v4:=Tryz.zeroValue4; have u4:=run_underlying Tryz.underlying4
 have t164:=Tryz.underlying154; have a164:=Tryz.isAgg154; have z164:=Tryz.sizeOf154; have v164:=Tryz.zeroValue154; have u164:=run_underlying Tryz.underlying154
 go_enter Tryz.func84,Tryz.ntmps84
 go_wp2
 rw[Lib.run_to_unsafe w ⟨b,0,none⟩ Tryz.underlying53 Tryz.underlying154 hj (by rw[hjs]; decide) hsh (Nat.zero_lt_succ 1)]
 simp only[Result.andThen]
 rw[Oper.upon_value]
 go_wp2
 rw[run_callFunc_extern Tryz.func116 (by kernel_rfl) (by kernel_rfl) (by kernel_rfl) (e:=Extern.AbiNoEscape.same) (by kernel_rfl)]
 rw[Lib.run_noEscape]
 simp only[Result.andThen]
 rw[Oper.upon_value]
 go_wp2
 rw[Lib.run_from_unsafe w ⟨b,0,none⟩ Tryz.underlying154 Tryz.underlying53 hj hsh hl]
 simp only[Result.andThen]
 rw[Oper.upon_value]
 go_wp2
 go_end0
 exact ⟨rfl,rfl⟩
abbrev isBl (T:TypeId):Prop:=T=56∨T=58
abbrev selfP (b:Nat):Value:=.pointer (some ⟨b,0,none⟩)
abbrev oBl (T:TypeId) (b:Nat) (p v:Value):Nat×Obj:=(b,Obj.cells #[p,v] T (0,0))
theorem setCell_sy (w:World) (b:Nat) (T:TypeId) (p v q:Value) (h:w.heap[b]?=some (.cells #[p,v] T (0,0))):Sy w [oBl T b q v] (w.setCell ⟨b,0,none⟩ q):=by
 refine ⟨rfl,rfl,rfl,by simp[World.setCell],fun b' o hm=>?_,by simp,fun k hk hn=>?_⟩
 ·simp only[qS,Prod.mk.injEq] at hm
  obtain ⟨rfl,rfl⟩:=hm
  simp[World.setCell,Array.getElem?_modify,h]
 ·simp only[List.map_cons,List.map_nil,qS] at hn
  have:¬ b=k:=fun e=>hn e.symm
  simp[World.setCell,Array.getElem?_modify,this]
theorem copyCheck_walk (w:World) (T:TypeId) (hT:isBl T) (b:Nat) (p v:Value) (hp:p=.pointer none∨p=selfP b) (h:w.heap[b]?=some (.cells #[p,v] T (0,0))) :
 Calls Tryz.prog 84 #[selfP b] w fun e w'=>e=.returned (.tuple #[])∧Sy w [oBl T b (selfP b) v] w':=by
 have hc:w.cell? ⟨b,0,none⟩=some p:=by simp[World.cell?,h]
 rcases hp with rfl|rfl
 ·refine (copyCheck_fresh T (by rcases hT with rfl|rfl<;>kernel_rfl) b w hc (by simp[World.shape?,h]) (by simp[World.frozen?,h])).mono ?_
  rintro e w' ⟨rfl,rfl⟩
  exact ⟨rfl,setCell_sy w b T _ v _ h⟩
 ·refine (copyCheck_used b w hc).mono ?_
  rintro e w' ⟨rfl,rfl⟩
  refine ⟨rfl,rfl,rfl,rfl,Nat.le_refl _,fun b' o hm=>?_,by simp,fun k _ _=>rfl⟩
  simp only[qS,Prod.mk.injEq] at hm
  obtain ⟨rfl,rfl⟩:=hm
  exact h
def BlO (wb:World) (T:TypeId) (b:Nat) (bs:List UInt8) (L M:Own):Prop :=
 ∃ p v,(p=.pointer none∨p=selfP b)∧RowO wb 5 1 L (oBl T b p v::M) v bs.length (bytesV bs)∧(bs=[]→v=.slice none 0 0)∧wb.heap.size≤b
theorem infoU8:(Tryz.prog.info? 5).map (fun i=>(i.zero,i.size,i.bytes))=some (some (.int .u8 0),1,1):=by kernel_rfl
theorem BlO.new {wb:World} {T:TypeId} {b:Nat} {bs:List UInt8} {L M:Own} (h:BlO wb T b bs L M) (hM:∀ p∈M,wb.heap.size≤p.1):∀ p∈L,wb.heap.size≤p.1:=by
 obtain ⟨p,v,_,hr,_,hb⟩:=h
 exact hr.new (nC hb hM)
theorem BlO.sub {wb:World} {T:TypeId} {b:Nat} {bs:List UInt8} {L M:Own} (h:BlO wb T b bs L M):∀ p∈M,p∈L:=fun p hp=>by
 obtain ⟨q,v,_,hr,_,_⟩:=h
 exact hr.mem (.tail _ hp)
theorem len_walk (wb w:World) (T:TypeId) (b:Nat) (bs:List UInt8) (L M:Own) (hB:BlO wb T b bs L M) (hw:Sy wb L w) :
 Calls Tryz.prog 24 #[selfP b] w (Rets w (Is (i64 bs.length))):=by
 refine enterT (args:=[selfP b]) Tryz.func24 rfl Tryz.ntmps24 (congrArg Array.toList Tryz.results24) (by kernel_rfl) (by simp) (Sy.refl w) ?_
 refine sp ?_
 obtain ⟨p,v,hp,hr,h0,hb⟩:=hB
 have hm:=hr.mem (.head _)
 have hat:At w b 1 [v]:=At.of_own (cs:=[p,v]) hw hm rfl
 refine ldF Shp.eq hat (by simp) ?_
 obtain ⟨a,c,rfl⟩:=hr.is_slice
 refine sp ?_
 exact finIs (by simp) rfl
theorem write_walk (wb w:World) (T:TypeId) (hT:isBl T) (b:Nat) (bs s:List UInt8) (L M:Own) (hB:BlO wb T b bs L M) (hs:s≠[]) (hlen:bs.length+s.length≤140737488355328) (hw:Sy wb L w) :
 Calls Tryz.prog 46 #[selfP b,str s] w fun e w'=>∃ v L',e=.returned v∧Sy wb L' w'∧(v=.tuple #[i64 s.length,.nilIface]∧BlO wb T b (bs++s) L' M):=by
 refine enterB (args:=[selfP b,str s]) Tryz.func46 rfl Tryz.ntmps46 (congrArg Array.toList Tryz.results46) (by kernel_rfl) (by simp) hw ?_
 refine sp ?_
 obtain ⟨p,v,hp,hr,h0,hb⟩:=hB
 have hne:bs++s≠[]:=fun e=>hs (List.append_eq_nil_iff.1 e).2
 have fin:∀ (v':Value) (L':Own),RowO wb 5 1 L' (oBl T b (selfP b) v'::M) v' (bs.length+s.length) (bytesV bs++bytesV s)→BlO wb T b (bs++s) L' M:=fun v' L' h' =>
  ⟨_,v',.inr rfl,h'.cast (by rw[qA]) (bytesV_append _ _).symm,fun e=>absurd e hne,hb⟩
 obtain ⟨h1,⟨rfl,h2,rfl⟩|⟨g,cap,cs,rfl,rfl,h3⟩⟩:=hr
 ·refine callV en_84 (callX_mut 0 b (S:=fun v o=>o=(oBl T b (selfP b) (.slice none 0 0)).2) rfl (fun w' hw'=>(copyCheck_walk w' T hT b p _ hp (hw'.own _ _ mem0)).mono fun e w2 ⟨he,hs2⟩=>⟨_,_,he,hs2,rfl⟩) ?_)
  rintro u o' rfl
  refine sp ?_
  refine lOn Shp.eq mem0 rfl ?_
  refine sp ?_
  refine appendS (M:=oBl T b (selfP b) (.slice none 0 0)::M) s un_54 Tryz.underlying9 infoU8 ⟨h1,.inl ⟨rfl,h2,rfl⟩⟩ (by omega) (fun v' L' h'=>?_)
  refine sp ?_
  obtain ⟨q1,⟨rfl,q2,rfl⟩|⟨g',cap',cs',rfl,rfl,q3⟩⟩:=h'
  ·refine sXa 0 rfl Siz.eq rfl rfl ?_
   refine sp ?_
   exact fun w' hw'=>⟨_,_,rfl,hw',rfl,fin _ _ ⟨q1,.inl ⟨rfl,q2,rfl⟩⟩⟩
  ·refine sXa 1 rfl Siz.eq rfl rfl ?_
   refine sp ?_
   exact fun w' hw'=>⟨_,_,rfl,hw',rfl,fin _ _ ⟨q1,.inr ⟨g',cap',cs',rfl,rfl,q3⟩⟩⟩
 ·refine callV en_84 (callX_mut 1 b (S:=fun v o=>o=(oBl T b (selfP b) (.slice (some ⟨g,0,none⟩) bs.length cap)).2) rfl (fun w' hw'=>(copyCheck_walk w' T hT b p _ hp (hw'.own _ _ mem1)).mono fun e w2 ⟨he,hs2⟩=>⟨_,_,he,hs2,rfl⟩) ?_)
  rintro u o' rfl
  refine sp ?_
  refine lOn Shp.eq mem1 rfl ?_
  refine sp ?_
  refine appendS (M:=oBl T b (selfP b) (.slice (some ⟨g,0,none⟩) bs.length cap)::M) s un_54 Tryz.underlying9 infoU8 ⟨h1,.inr ⟨g,cap,cs,rfl,rfl,h3⟩⟩ (by omega) (fun v' L' h'=>?_)
  refine sp ?_
  obtain ⟨q1,⟨rfl,q2,rfl⟩|⟨g',cap',cs',rfl,rfl,q3⟩⟩:=h'
  ·refine sXa 0 rfl Siz.eq rfl rfl ?_
   refine sp ?_
   exact fun w' hw'=>⟨_,_,rfl,hw',rfl,fin _ _ ⟨q1,.inl ⟨rfl,q2,rfl⟩⟩⟩
  ·refine sXa 1 rfl Siz.eq rfl rfl ?_
   refine sp ?_
   exact fun w' hw'=>⟨_,_,rfl,hw',rfl,fin _ _ ⟨q1,.inr ⟨g',cap',cs',rfl,rfl,q3⟩⟩⟩
theorem writeByte_walk (wb w:World) (T:TypeId) (hT:isBl T) (b:Nat) (bs:List UInt8) (c:UInt8) (L M:Own) (hB:BlO wb T b bs L M) (hlen:bs.length+1≤140737488355328) (hw:Sy wb L w) :
 Calls Tryz.prog 52 #[selfP b,.int .u8 c.toNat] w fun e w'=>∃ v L',e=.returned v∧Sy wb L' w'∧(v=.nilIface∧BlO wb T b (bs++[c]) L' M):=by
 refine enterB (args:=[selfP b,.int .u8 c.toNat]) Tryz.func52 rfl Tryz.ntmps52 (congrArg Array.toList Tryz.results52) (by kernel_rfl) (by simp) hw ?_
 refine sp ?_
 obtain ⟨p,v,hp,hr,h0,hb⟩:=hB
 have fin:∀ (v':Value) (L':Own),RowO wb 5 1 L' (oBl T b (selfP b) v'::M) v' (bs.length+[c].length) (bytesV bs++bytesV [c])→BlO wb T b (bs++[c]) L' M:=fun v' L' h' =>
  ⟨_,v',.inr rfl,h'.cast (by rw[qA]) (bytesV_append _ _).symm,fun e=>absurd e (by simp),hb⟩
 obtain ⟨h1,⟨rfl,h2,rfl⟩|⟨g,cap,cs,rfl,rfl,h3⟩⟩:=hr
 ·refine callV en_84 (callX_mut 0 b (S:=fun v o=>o=(oBl T b (selfP b) (.slice none 0 0)).2) rfl (fun w' hw'=>(copyCheck_walk w' T hT b p _ hp (hw'.own _ _ mem0)).mono fun e w2 ⟨he,hs2⟩=>⟨_,_,he,hs2,rfl⟩) ?_)
  rintro u o' rfl
  refine sp ?_
  refine lOn Shp.eq mem0 rfl ?_
  refine sp ?_
  refine makeOne (size:=1) un_54 (by kernel_rfl) (by decide) (by decide) (fun w=>Tryz.zeroValue5 w) rfl (newI (fun b1 hb1 hn1=>?_))
  refine sp ?_
  refine appendB (M:=oBl T b (selfP b) (.slice none 0 0)::M) [c] un_54 infoU8 ⟨h1,.inl ⟨rfl,h2,rfl⟩⟩ hb1 (by simp; omega) (fun v' L' h'=>?_)
  refine sp ?_
  obtain ⟨q1,⟨rfl,q2,rfl⟩|⟨g',cap',cs',rfl,rfl,q3⟩⟩:=h'
  ·simp at q2
  ·refine sXa 2 rfl Siz.eq rfl rfl ?_
   refine sp ?_
   exact fun w' hw'=>⟨_,(g',Obj.cells cs'.toArray 5 (0,0))::oBl T b (selfP b) _::M,rfl,hw'.mid [_] [_] (fun p hp=>by rw[List.mem_singleton.1 hp]; exact hb1),rfl,fin _ _ ⟨q1,.inr ⟨g',cap',cs',rfl,rfl,q3⟩⟩⟩
 ·refine callV en_84 (callX_mut 1 b (S:=fun v o=>o=(oBl T b (selfP b) (.slice (some ⟨g,0,none⟩) bs.length cap)).2) rfl (fun w' hw'=>(copyCheck_walk w' T hT b p _ hp (hw'.own _ _ mem1)).mono fun e w2 ⟨he,hs2⟩=>⟨_,_,he,hs2,rfl⟩) ?_)
  rintro u o' rfl
  refine sp ?_
  refine lOn Shp.eq mem1 rfl ?_
  refine sp ?_
  refine makeOne (size:=1) un_54 (by kernel_rfl) (by decide) (by decide) (fun w=>Tryz.zeroValue5 w) rfl (newI (fun b1 hb1 hn1=>?_))
  refine sp ?_
  refine appendB (M:=oBl T b (selfP b) (.slice (some ⟨g,0,none⟩) bs.length cap)::M) [c] un_54 infoU8 ⟨h1,.inr ⟨g,cap,cs,rfl,rfl,h3⟩⟩ hb1 (by simp; omega) (fun v' L' h'=>?_)
  refine sp ?_
  obtain ⟨q1,⟨rfl,q2,rfl⟩|⟨g',cap',cs',rfl,rfl,q3⟩⟩:=h'
  ·simp at q2
  ·refine sXa 2 rfl Siz.eq rfl rfl ?_
   refine sp ?_
   exact fun w' hw'=>⟨_,(g',Obj.cells cs'.toArray 5 (0,0))::oBl T b (selfP b) _::M,rfl,hw'.mid [_] [_] (fun p hp=>by rw[List.mem_singleton.1 hp]; exact hb1),rfl,fin _ _ ⟨q1,.inr ⟨g',cap',cs',rfl,rfl,q3⟩⟩⟩
theorem string_nil (w:World) (b:Nat) (T:TypeId) (p:Value) (hbk:w.heap[b]?=some (.cells #[p,.slice none 0 0] T (0,0))) :
 Calls Tryz.prog 25 #[selfP b] w fun e w'=>e=.returned (.string ⟨#[]⟩)∧w'=w.drew:=by
 have hUS:∀ W q,(Builtin.unsafeString_ #[100,3] 9 #[.pointer q,.int .i64 0]).run Tryz.prog W=.ok (.string .empty) W:=fun W q=>Lib.run_unsafeString_none W _ _ _ q
 have c1:w.drew.cell? ⟨b,1,none⟩=some (.slice none 0 0):=by
  have:w.drew.heap[b]?=some (.cells #[p,.slice none 0 0] T (0,0)):=hbk
  simp[World.cell?,this]
 have hSD:(Builtin.unsafeSliceData_ #[54] 100 #[.slice none 0 0]).run Tryz.prog w.drew=.ok (.pointer none) w.drew:=rfl
 have mixed:=mixed
 have t72:=Tryz.underlying56; have a72:=Tryz.isAgg56; have z72:=Tryz.sizeOf56; have v72:=Tryz.zeroValue56; have u72:=run_underlying Tryz.underlying56
 have t37:=Tryz.underlying54; have a37:=Tryz.isAgg54; have z37:=Tryz.sizeOf54; have v37:=Tryz.zeroValue54; have u37:=run_underlying Tryz.underlying54
 have t127:=Tryz.underlying100; have a127:=Tryz.isAgg100; have z127:=Tryz.sizeOf100; have v127:=Tryz.zeroValue100; have u127:=run_underlying Tryz.underlying100
 have t3:=Tryz.underlying3; have a3:=Tryz.isAgg3; have z3:=Tryz.sizeOf3; have v3:=Tryz.zeroValue3; have u3:=run_underlying Tryz.underlying3
 have t9:=Tryz.underlying9; have a9:=Tryz.isAgg9; have z9:=Tryz.sizeOf9; have v9:=Tryz.zeroValue9; have u9:=run_underlying Tryz.underlying9
 go_enter Tryz.func25,Tryz.ntmps25
 go_wp2
 go_region_o
 all_goals (go_wp2; go_ret; exact ⟨rfl,rfl⟩)
theorem string_some (w:World) (b:Nat) (T:TypeId) (p:Value) (l:List UInt8) (h0:l≠[]) (g cap:Nat) (cs:List Value) (hbk:w.heap[b]?=some (.cells #[p,.slice (some ⟨g,0,none⟩) l.length cap] T (0,0)))
 (hg:w.heap[g]?=some (.cells cs.toArray 5 (0,0))) (hc:l.length≤cap) (hc2:cap≤maxLen) (hcl:cs.length=cap) (hcs:cs.take l.length=bytesV l) :
 Calls Tryz.prog 25 #[selfP b] w fun e w'=>e=.returned (str l)∧w'=w.drew.freeze ⟨g,0,none⟩ l.length:=by
 have hl0:l.length≠0:=by simpa using h0
 have c1:w.drew.cell? ⟨b,1,none⟩=some (.slice (some ⟨g,0,none⟩) l.length cap):=by
  have:w.drew.heap[b]?=some (.cells #[p,.slice (some ⟨g,0,none⟩) l.length cap] T (0,0)):=hbk
  simp[World.cell?,this]
 have hg':w.drew.heap[g]?=some (.cells cs.toArray 5 (0,0)):=hg
 have hSD:(Builtin.unsafeSliceData_ #[54] 100 #[.slice (some ⟨g,0,none⟩) l.length cap]).run Tryz.prog w.drew=.ok (.pointer (some ⟨g,0,none⟩)) w.drew :=
  Lib.run_unsafeSliceData_row _ _ _ _ _ _ (by omega)
 have hUS:(Builtin.unsafeString_ #[100,3] 9 #[.pointer (some ⟨g,0,none⟩),.int .i64 l.length]).run Tryz.prog w.drew=.ok (.string ⟨l.toArray⟩) (w.drew.freeze ⟨g,0,none⟩ l.length):=by
  refine Lib.run_unsafeString_row w.drew 100 3 9 5 Tryz.underlying100 (by kernel_rfl) g cs.length (by simp[World.shape?,hg']) l h0 (by omega) (by unfold maxLen at hc2; omega) ?_
  intro j x hx
  have hj:=(List.getElem?_eq_some_iff.1 hx).1
  have ha:(⟨g,0,none⟩:Addr).add j=⟨g,j,none⟩:=by
   unfold Addr.add; split
   ·rename_i h; subst h; rfl
   ·simp
  rw[ha]
  have h5:(cs.take l.length)[j]?=some (.int .u8 x.toNat):=by rw[hcs]; simp[bytesV,hx]
  rw[List.getElem?_take_of_lt hj] at h5
  simp[World.cell?,hg',h5]
 have mixed:=mixed
 have t72:=Tryz.underlying56; have a72:=Tryz.isAgg56; have z72:=Tryz.sizeOf56; have v72:=Tryz.zeroValue56; have u72:=run_underlying Tryz.underlying56
 have t37:=Tryz.underlying54; have a37:=Tryz.isAgg54; have z37:=Tryz.sizeOf54; have v37:=Tryz.zeroValue54; have u37:=run_underlying Tryz.underlying54
 have t127:=Tryz.underlying100; have a127:=Tryz.isAgg100; have z127:=Tryz.sizeOf100; have v127:=Tryz.zeroValue100; have u127:=run_underlying Tryz.underlying100
 have t3:=Tryz.underlying3; have a3:=Tryz.isAgg3; have z3:=Tryz.sizeOf3; have v3:=Tryz.zeroValue3; have u3:=run_underlying Tryz.underlying3
 have t9:=Tryz.underlying9; have a9:=Tryz.isAgg9; have z9:=Tryz.sizeOf9; have v9:=Tryz.zeroValue9; have u9:=run_underlying Tryz.underlying9
 go_enter Tryz.func25,Tryz.ntmps25
 go_wp2
 go_region_o
 all_goals (go_wp2; go_ret; exact ⟨rfl,rfl⟩)
theorem string_walk (wb w:World) (T:TypeId) (b:Nat) (bs:List UInt8) (L M:Own) (hB:BlO wb T b bs L M) (hw:Sy wb L w) :
 Calls Tryz.prog 25 #[selfP b] w fun e w'=>∃ v L',e=.returned v∧Sy wb L' w'∧(v=str bs∧L'=M):=by
 obtain ⟨p,v,hp,hr,h0,hb⟩:=hB
 by_cases he:bs=[]
 ·obtain rfl:=h0 he
  subst he
  have hm:=hr.mem (.head _)
  refine (string_nil w b T p (hw.own _ _ hm)).mono ?_
  rintro e w' ⟨rfl,rfl⟩
  refine ⟨_,M,rfl,?_,rfl,rfl⟩
  obtain ⟨h1,⟨_,h2,rfl⟩|⟨g,cap,cs,h2,_⟩⟩:=hr
  ·exact (hw.left (A:=[_]) (fun p hp=>by rw[List.mem_singleton.1 hp]; exact hb)).drew
  ·cases h2
 ·obtain ⟨h1,⟨_,h2,rfl⟩|⟨g,cap,cs,rfl,rfl,h3,h4,h5,h6,h7⟩⟩:=hr
  ·exact absurd (List.eq_nil_of_length_eq_zero h2) he
  ·refine (string_some w b T p bs he g cap cs (hw.own _ _ mem1) (hw.own _ _ mem0) h4 h5 (by omega) (un h7)).mono ?_
   rintro e w' ⟨rfl,rfl⟩
   refine ⟨_,M,rfl,?_,rfl,rfl⟩
   have hnd:=hw.nodup
   simp only[List.map_cons,List.nodup_cons,List.mem_cons,not_or] at hnd
   have hne:∀ k,k≠g→(w.drew.freeze ⟨g,0,none⟩ bs.length).heap[k]?=w.heap[k]?:=fun k hk=>by
    unfold World.freeze
    split
    ·rfl
    ·show (w.heap.modify g _)[k]?=_
     rw[Array.getElem?_modify,if_neg (fun h=>hk h.symm)]
   have hsz:(w.drew.freeze ⟨g,0,none⟩ bs.length).heap.size=w.heap.size:=by
    unfold World.freeze
    split
    ·rfl
    ·show (w.heap.modify g _).size=_
     rw[Array.size_modify]
   have hos:(w.drew.freeze ⟨g,0,none⟩ bs.length).os=w.os∧(w.drew.freeze ⟨g,0,none⟩ bs.length).tape=w.tape∧(w.drew.freeze ⟨g,0,none⟩ bs.length).output=w.output:=by
    unfold World.freeze
    split<;>exact ⟨rfl,rfl,rfl⟩
   refine ⟨hos.1.trans hw.os,hos.2.1.trans hw.tape,hos.2.2.trans hw.output,by rw[hsz]; exact hw.size,fun k o hm=>?_,hnd.2.2,fun k hk hn=>?_⟩
   ·have hkg:k≠g:=fun e=>by
     subst e
     exact hnd.1.2 (List.mem_map.2 ⟨_,hm,rfl⟩)
    rw[hne k hkg]
    exact hw.own k o (.tail _ (.tail _ hm))
   ·rw[hne k (by omega)]
    exact hw.rest k hk (by
     simp only[List.map_cons,List.mem_cons,not_or]
     exact ⟨by omega,by omega,hn⟩)
open Go Go.K
theorem and15b {P:Program} {K:Value→Prop} (t:TypeId) (x y:Operand) (c:UInt8):PureX P (binV .and t x y (.int .u8 (c.toNat:Int)) (.int .u8 15)) (tag K)=K (.int .u8 ((c.toNat % 16:Nat):Int)):=by
 have key:∀ c:Fin 256,bits .and .u8 (c.val:Int) 15=((c.val % 16:Nat):Int):=by decide +kernel
 have e:=key ⟨c.toNat,c.toNat_lt⟩
 simp only at e
 rw[← e]
 exact px (fun w=>rfl) K
theorem shr4c {P:Program} {K:Value→Prop} (t:TypeId) (x y:Operand) (c:UInt8):PureX P (binV .shr t x y (.int .u8 (c.toNat:Int)) (.int .u64 4)) (tag K)=K (.int .u8 ((c.toNat / 16:Nat):Int)):=by
 rw[shr4b]; rfl
theorem escaped_walk (w:World) (c:UInt8):Calls Tryz.prog 88 #[.int .u8 c.toNat] w (Rets w (Is (str (escP c)))):=by
 refine enterT (args:=[.int .u8 c.toNat]) Tryz.func88 rfl Tryz.ntmps88 (congrArg Array.toList Tryz.results88) (by kernel_rfl) (by simp) (Sy.refl w) ?_
 have hc:=c.toNat_lt
 refine sp ?_
 rw[Vb]
 refine sp ?_
 repeat' (first|((first|((first|refine gT rfl ?_ ?_|refine gF rfl ?_ ?_|refine cdD ?_ ?_)<;>intro h)|((first|refine gbT rfl ?_ ?_|refine gbF rfl ?_ ?_|refine cdB ?_ ?_)<;>intro h<;>(try subst h))|refine lOa Shp.eq rfl ?_|refine lAa Shp.eq rfl rfl ?_|refine newI (fun b hb hn=>?_)|refine sXb Siz.eq rfl rfl ?_)<;>simp (disch:=omega) only[push_cast,qE])|(first|rw[Vc]|rw[Vb])<;>(try simp (disch:=omega) only[push_cast,qE]))
 all_goals first
  | (refine finIs (by simp) ?_
     unfold escP
     (repeat (first|rw[if_pos (by omega)]|rw[if_neg (by omega)]))
     done)
  | (refine drawQT (by kernel_rfl) (by kernel_rfl) mixed (by kernel_rfl) ?_
     simp (disch:=omega) only[push_cast,qE,shr4c]
     refine slHex (q:=c.toNat / 16) (by omega) (by omega) (by omega) ?_
     refine sp ?_
     refine addS (l:=[92,120]) (by simp only[qN,qO,qA]; omega) ?_
     simp (disch:=omega) only[push_cast,qE,and15b]
     refine slHex (q:=c.toNat % 16) (by omega) (by omega) (by omega) ?_
     refine sp ?_
     refine addS (by simp only[qN,qO,qA]; omega) ?_
     refine sp ?_
     refine finIs (by simp) ?_
     unfold escP
     (repeat (first|rw[if_pos (by omega)]|rw[if_neg (by omega)])))
structure TxB (w0:World) (pb:Nat) (bs pre s:List UInt8) (F:UInt8→List UInt8) (M:Own) (k1 k2:Nat) (i:Nat) (wb:World) (e:Env) (ds:List Deferred) (L:Own):Prop where
 hw:wb=w0
 hds:ds=[]
 o:BlO w0 58 pb (bs++(pre++(s.take i).flatMap F)) L M
 hi:i≤s.length
 h0:e 0=selfP pb
 h1:e 1=str s
 hk1:e k1=i64 s.length
 hk2:e k2=i64 i
def PrL (wb:World) (pb:Nat) (bs:List UInt8) (M:Own) (e:Ending) (w':World):Prop:=∃ v L',e=.returned v∧Sy wb L' w'∧(v=.tuple #[]∧BlO wb 58 pb bs L' M)
theorem printText_walk (wb w:World) (pb:Nat) (bs s:List UInt8) (L M:Own) (hB:BlO wb 58 pb bs L M) (hM:∀ p∈M,wb.heap.size≤p.1) (hlen:bs.length+(textT s).length≤1000000000) (hw:Sy wb L w) :
 Calls Tryz.prog 50 #[selfP pb,str s] w (PrL wb pb (bs++textT s) M):=by
 refine enterB (args:=[selfP pb,str s]) Tryz.func50 rfl Tryz.ntmps50 (congrArg Array.toList Tryz.results50) (by kernel_rfl) (by simp) hw ?_
 have htl:(textT s).length=(s.flatMap charT).length+2:=by unfold textT; simp
 have hsl:s.length≤(s.flatMap charT).length:=by
  clear hlen htl
  induction s with
  | nil=>simp
  | cons c l ih=>rw[List.flatMap_cons,qA,qN]; have:=(char_len c).1; omega
 refine sp ?_
 refine callV en_52 (callX_own (fun w' hw'=>writeByte_walk wb w' _ (.inr rfl) pb bs 34 L M hB (by omega) hw') (fun v L1 ⟨hv,hB1⟩=>?_))
 subst hv
 refine sp ?_
 refine forget (fun e=>e 0=selfP pb∧e 1=str s∧e 11=i64 s.length∧e 12=i64 0) ⟨rfl,rfl,rfl,rfl⟩ ?_
 rintro e ⟨h0,h1,h11,h12⟩
 rw[Vb]
 simp (disch:=omega) only[push_cast,qE,h0,h1,h11,h12]
 refine loopW (G:=Nat) (TxB wb pb bs [34] s charT M 11 12) (fun i=>s.length - i) 0 _ (fun w hw=>hw) (by kernel_rfl) ⟨rfl,rfl,un hB1,Nat.zero_le _,h0,h1,h11,h12⟩ ?_
 clear h0 h1 h11 h12 e hB1
 rintro i wb e ds L2 ⟨rfl,rfl,hB2,hi,h0,h1,h11,h12⟩
 have hpre:((s.take i).flatMap charT).length≤(s.flatMap charT).length:=by
  conv=>rhs; rw[← List.take_append_drop i s,List.flatMap_append,qA]
  exact Nat.le_add_right _ _
 simp (disch:=omega) only[push_cast,qE,h11,h12]
 rw[Vc]
 simp (disch:=omega) only[push_cast,qE,h11,h12]
 refine cdD (fun hlt=>?_) (fun hge=>?_)
 rotate_left
 ·obtain rfl:i=s.length:=by omega
  simp (disch:=omega) only[push_cast,qE,h0]
  refine callV en_52 (callX_own (fun w' hw'=>writeByte_walk wb w' _ (.inr rfl) pb _ 34 L2 M hB2 (by simp only[qA,qN,qO,List.take_length]; omega) hw') (fun v L3 ⟨hv,hB3⟩=>?_))
  subst hv
  refine sp ?_
  refine fun w' hw'=>⟨_,L3,rfl,hw',rfl,?_⟩
  rw[List.take_length] at hB3
  simpa [textT] using hB3
 obtain ⟨c,hc⟩:∃ c,s[i]?=some c:=⟨_,qH (by omega)⟩
 have hget:s.getD i 0=c:=by rw[List.getD_eq_getElem?_getD,hc]; rfl
 have hnext:(s.take (i+1)).flatMap charT=(s.take i).flatMap charT++charT c:=by rw[List.take_add_one,hc,List.flatMap_append]; simp
 have hcl:(charT c).length≤4:=(char_len c).2
 simp (disch:=omega) only[push_cast,qE,h1,h12]
 rw[Vb]
 simp (disch:=omega) only[push_cast,qE,h1,h12]
 rw[hget]
 refine callV en_88 (cIs (fun w' _=>escaped_walk w' c) ?_)
 simp (disch:=omega) only[push_cast,qE,h0,h1]
 rw[Vc]
 simp (disch:=omega) only[push_cast,qE,h0,h1]
 refine cdD (fun hne=>?_) (fun he=>?_)
 ·simp (disch:=omega) only[push_cast,qE,h0]
  refine callV en_46 (callX_own (fun w' hw'=>write_walk wb w' _ (.inr rfl) pb _ (escP c) L2 M hB2 hne (by have:=esc_len c; simp only[qA,qN,qO]; omega) hw') (fun v L3 ⟨hv,hB3⟩=>?_))
  subst hv
  simp (disch:=omega) only[push_cast,qE,h12]
  refine ⟨i+1,_,fun w hw=>hw,⟨rfl,rfl,?_,by omega,h0,h1,h11,?_⟩,by omega⟩
  ·rw[hnext,show charT c=escP c by unfold charT; rw[if_neg hne]]; simpa using hB3
  ·simp only[upd]; first|rfl|exact congrArg i64 (by omega)
 ·have he:escP c=[]:=Decidable.not_not.1 he
  refine freeT [0,1,2,3,4,5] [6] [] (by kernel_rfl) mixed (by kernel_rfl) (Stab.of (List.nil_sublist _) (hB2.new hM)) ?_
  simp (disch:=omega) only[push_cast,qE,h0,h1]
  rw[hget]
  refine callV en_52 (callX_own (fun w' hw'=>writeByte_walk wb w' _ (.inr rfl) pb _ c L2 M hB2 (by simp only[qA,qN,qO]; omega) hw') (fun v L3 ⟨hv,hB3⟩=>?_))
  subst hv
  refine ⟨rfl,Stab.of (List.nil_sublist _) (hB3.new hM),?_⟩
  simp (disch:=omega) only[push_cast,qE,h12]
  refine ⟨i+1,_,fun w hw=>hw,⟨rfl,rfl,?_,by omega,h0,h1,h11,?_⟩,by omega⟩
  ·rw[hnext,char_plain he]; simpa using hB3
  ·simp only[upd]; first|rfl|exact congrArg i64 (by omega)
theorem idxHex {K:Value→Prop} {kk:IntKind} {q:Nat} {i:Int} (hi:i=q) (hq:q < 16) (hk:K (.int .u8 ((hexC q).toNat:Int))):PureX Tryz.prog (Instr.index 9 (str hexL) (.int kk i)) (tag K):=by
 subst hi
 refine Eq.mpr (is_9 hexL kk _ (by omega) (show (q:Int) < (16:Nat) by omega)) ?_
 rw[Int.toNat_natCast,List.getD_eq_getElem?_getD,hexL_get hq]
 exact hk
theorem printBytes_walk (wb w:World) (pb:Nat) (bs s:List UInt8) (L M:Own) (hB:BlO wb 58 pb bs L M) (hM:∀ p∈M,wb.heap.size≤p.1) (hlen:bs.length+(bytesT s).length≤1000000000) (hw:Sy wb L w) :
 Calls Tryz.prog 51 #[selfP pb,str s] w (PrL wb pb (bs++bytesT s) M):=by
 refine enterB (args:=[selfP pb,str s]) Tryz.func51 rfl Tryz.ntmps51 (congrArg Array.toList Tryz.results51) (by kernel_rfl) (by simp) hw ?_
 have htl:(bytesT s).length=(s.flatMap byteT).length+3:=by unfold bytesT; simp
 have hsl:(s.flatMap byteT).length=2 * s.length:=by
  clear hlen htl
  induction s with
  | nil=>simp
  | cons c l ih=>rw[List.flatMap_cons,qA,qN,ih]; show 2+_=_; omega
 refine sp ?_
 refine callV en_46 (callX_own (fun w' hw'=>write_walk wb w' _ (.inr rfl) pb bs [120,34] L M hB (by simp) (by simp only[qN,qO]; omega) hw') (fun v L1 ⟨hv,hB1⟩=>?_))
 subst hv
 refine sp ?_
 refine forget (fun e=>e 0=selfP pb∧e 1=str s∧e 10=i64 s.length∧e 11=i64 0) ⟨rfl,rfl,rfl,rfl⟩ ?_
 rintro e ⟨h0,h1,h11,h12⟩
 rw[Vb]
 simp (disch:=omega) only[push_cast,qE,h0,h1,h11,h12]
 refine loopW (G:=Nat) (TxB wb pb bs [120,34] s byteT M 10 11) (fun i=>s.length - i) 0 _ (fun w hw=>hw) (by kernel_rfl) ⟨rfl,rfl,un hB1,Nat.zero_le _,h0,h1,h11,h12⟩ ?_
 clear h0 h1 h11 h12 e hB1
 rintro i wb e ds L2 ⟨rfl,rfl,hB2,hi,h0,h1,h11,h12⟩
 have hpre:((s.take i).flatMap byteT).length≤(s.flatMap byteT).length:=by
  conv=>rhs; rw[← List.take_append_drop i s,List.flatMap_append,qA]
  exact Nat.le_add_right _ _
 simp (disch:=omega) only[push_cast,qE,h11,h12]
 rw[Vc]
 simp (disch:=omega) only[push_cast,qE,h11,h12]
 refine cdD (fun hlt=>?_) (fun hge=>?_)
 rotate_left
 ·obtain rfl:i=s.length:=by omega
  simp (disch:=omega) only[push_cast,qE,h0]
  refine callV en_52 (callX_own (fun w' hw'=>writeByte_walk wb w' _ (.inr rfl) pb _ 34 L2 M hB2 (by simp only[qA,qN,qO,List.take_length]; omega) hw') (fun v L3 ⟨hv,hB3⟩=>?_))
  subst hv
  refine sp ?_
  refine fun w' hw'=>⟨_,L3,rfl,hw',rfl,?_⟩
  rw[List.take_length] at hB3
  simpa [bytesT] using hB3
 obtain ⟨c,hc⟩:∃ c,s[i]?=some c:=⟨_,qH (by omega)⟩
 have hget:s.getD i 0=c:=by rw[List.getD_eq_getElem?_getD,hc]; rfl
 have hnext:(s.take (i+1)).flatMap byteT=(s.take i).flatMap byteT++byteT c:=by rw[List.take_add_one,hc,List.flatMap_append]; simp
 have hcl:=c.toNat_lt
 simp (disch:=omega) only[push_cast,qE,h1,h12]
 rw[Vb]
 simp (disch:=omega) only[push_cast,qE,h1,h12]
 refine freeT [0,1,2,3,4,5,6,7] [8] [] (by kernel_rfl) mixed (by kernel_rfl) (Stab.of (List.nil_sublist _) (hB2.new hM)) ?_
 simp (disch:=omega) only[push_cast,qE,h0,h1,shr4c]
 rw[hget]
 try simp (disch:=omega) only[push_cast,qE,h0,h1,shr4c]
 refine idxHex (q:=c.toNat / 16) (by omega) (by omega) ?_
 simp (disch:=omega) only[push_cast,qE,h0,h1]
 refine callV en_52 (callX_own (fun w' hw'=>writeByte_walk wb w' _ (.inr rfl) pb _ (hexC (c.toNat / 16)) L2 M hB2 (by simp only[qA,qN,qO]; omega) hw') (fun v L3 ⟨hv,hB3⟩=>?_))
 subst hv
 refine ⟨rfl,Stab.of (List.nil_sublist _) (hB3.new hM),?_⟩
 refine sp ?_
 refine freeT [0,1,2,3,4,5,6,7] [8] [] (by kernel_rfl) mixed (by kernel_rfl) (Stab.of (List.nil_sublist _) (hB3.new hM)) ?_
 simp (disch:=omega) only[push_cast,qE,h0,h1,and15b]
 rw[hget]
 try simp (disch:=omega) only[push_cast,qE,h0,h1,and15b]
 refine idxHex (q:=c.toNat % 16) (by omega) (by omega) ?_
 simp (disch:=omega) only[push_cast,qE,h0,h1]
 refine callV en_52 (callX_own (fun w' hw'=>writeByte_walk wb w' _ (.inr rfl) pb _ (hexC (c.toNat % 16)) L3 M hB3 (by simp only[qA,qN,qO]; omega) hw') (fun v L4 ⟨hv,hB4⟩=>?_))
 subst hv
 refine ⟨rfl,Stab.of (List.nil_sublist _) (hB4.new hM),?_⟩
 simp (disch:=omega) only[push_cast,qE,h12]
 refine ⟨i+1,_,fun w hw=>hw,⟨rfl,rfl,?_,by omega,h0,h1,h11,?_⟩,by omega⟩
 ·rw[hnext]; simpa [byteT] using hB4
 ·simp only[upd]; first|rfl|exact congrArg i64 (by omega)
abbrev marksC:List Value:=[.bool false,i64 (-7),str [],.slice none 0 0,.bool false,i64 (-8),str [],.slice none 0 0]
mutual
def OwV:Vl→Own→Option Addr→Nat→Prop
 | .mk _ num tx ls,K,a,c=>tx.length≤9223372036854775807∧(-9223372036854775808≤num∧num < 9223372036854775808)∧∃ (b:Nat) (cs rest:List Value) (K':Own),a=some ⟨b,0,none⟩∧K=(b,Obj.cells (cs++(marksC++rest)).toArray 29 (0,0))::K'∧KidV ls K' cs∧ls.length+2≤c∧c≤9223372036854775807∧(cs++(marksC++rest)).length=c * 4
def KidV:List Vl→Own→List Value→Prop
 | [],K,cs=>K=[]∧cs=[]
 | v::l,K,cs=>∃ (K1 K2:Own) (a:Option Addr) (c:Nat) (cs':List Value),K=K1++K2∧cs=v.cells a c++cs'∧OwV v K1 a c∧KidV l K2 cs'
end
theorem OwV_iff (v:Vl) (K:Own) (a:Option Addr) (c:Nat):OwV v K a c↔v.tx.length≤9223372036854775807∧(-9223372036854775808≤v.num∧v.num < 9223372036854775808)∧∃ (b:Nat) (cs rest:List Value) (K':Own),a=some ⟨b,0,none⟩∧K=(b,Obj.cells (cs++(marksC++rest)).toArray 29 (0,0))::K'∧KidV v.ls K' cs∧v.ls.length+2≤c∧c≤9223372036854775807∧(cs++(marksC++rest)).length=c * 4:=by
 cases v; rw[OwV]; rfl
theorem KidV.len:∀ {ls:List Vl} {K:Own} {cs:List Value},KidV ls K cs→cs.length=ls.length * 4
 | [],K,cs,h=>by rw[KidV] at h; rw[h.2]; rfl
 | v::l,K,cs,h=>by
  rw[KidV] at h
  obtain ⟨K1,K2,a,c,cs',_,rfl,_,h2⟩:=h
  have:=KidV.len h2
  simp only[Vl.cells,qA,qN,qO,this]
  omega
theorem At.split {w:World} {b off:Nat} {x y:List Value} (h:At w b off (x++y)):At w b off x∧At w b (off+x.length) y:=by
 refine ⟨?_,h.sub x.length y (by simp)⟩
 have:=h.sub 0 x (by simp)
 simpa using this
mutual
theorem OwV.at_ {wb w:World} {L:Own} (hw:Sy wb L w):∀ (v:Vl) {K:Own} {a:Option Addr} {c:Nat},OwV v K a c→(∀ p∈K,p∈L)→VAt w w.heap.size v a c
 | .mk nu num tx ls,K,a,c,h,hK=>by
  rw[OwV] at h
  obtain ⟨h1,h2,b,cs,rest,K',rfl,rfl,h3,h4,h5,h6⟩:=h
  have hm:(b,Obj.cells (cs++(marksC++rest)).toArray 29 (0,0))∈L:=hK _ (.head _)
  have hat:At w b 0 cs:=At.of_own hw hm (by simp)
  refine ⟨KidV.rd hw ls h3 (fun p hp=>hK p (.tail _ hp)) (hw.lt hm) hat,?_,h5,h1,h2⟩
  show ls.length≤c
  omega
theorem KidV.rd {wb w:World} {L:Own} (hw:Sy wb L w):∀ (ls:List Vl) {K:Own} {cs:List Value} {b off:Nat},KidV ls K cs→(∀ p∈K,p∈L)→b < w.heap.size→At w b off cs→RdV w w.heap.size (some ⟨b,off,none⟩) ls
 | [],K,cs,b,off,h,hK,hb,hat=>.nil _
 | v::l,K,cs,b,off,h,hK,hb,hat=>by
  rw[KidV] at h
  obtain ⟨K1,K2,a,c,cs',rfl,rfl,h1,h2⟩:=h
  have h3:=OwV.at_ hw v h1 (fun p hp=>hK p (List.mem_append_left _ hp))
  obtain ⟨q1,q2⟩:=At.split hat
  exact .cons hb h3.hc h3.hc2 h3.ht h3.hn q1 h3.hr (KidV.rd hw l h2 (fun p hp=>hK p (List.mem_append_right _ hp)) hb q2)
end
theorem KidV.append {m:List Vl} {K2:Own} {ds:List Value} (hd:KidV m K2 ds):∀ {l:List Vl} {K1:Own} {cs:List Value},KidV l K1 cs→KidV (l++m) (K1++K2) (cs++ds)
 | [],K1,cs,h=>by rw[KidV] at h; obtain ⟨rfl,rfl⟩:=h; exact hd
 | v::l,K1,cs,h=>by
  rw[KidV] at h
  obtain ⟨A,B,a,c,cs',rfl,rfl,h1,h2⟩:=h
  rw[List.cons_append,KidV]
  exact ⟨A,B++K2,a,c,cs'++ds,by rw[List.append_assoc],by rw[List.append_assoc],h1,KidV.append hd h2⟩
theorem KidV.single {v:Vl} {K:Own} {a:Option Addr} {c:Nat} (h:OwV v K a c):KidV [v] K (v.cells a c):=by
 rw[KidV]
 exact ⟨K,[],a,c,[],by simp,by simp,h,by rw[KidV]; exact ⟨rfl,rfl⟩⟩
theorem RowO.frame {wb:World} {ty:TypeId} {sz n:Nat} {R M:Own} {v:Value} {xs:List Value} (h:RowO wb ty sz R [] v n xs):RowO wb ty sz (R++M) M v n xs:=by
 obtain ⟨h0,⟨h1,h2,h3⟩|⟨b,cap,cs,h1,h2,h3⟩⟩:=h
 ·exact ⟨h0,.inl ⟨h1,h2,by rw[h3]; rfl⟩⟩
 ·exact ⟨h0,.inr ⟨b,cap,cs,h1,by rw[h2]; rfl,h3⟩⟩
theorem RowO.unframe {wb:World} {ty:TypeId} {sz n:Nat} {L M:Own} {v:Value} {xs:List Value} (h:RowO wb ty sz L M v n xs):∃ R,L=R++M∧RowO wb ty sz R [] v n xs:=by
 obtain ⟨h0,⟨h1,h2,h3⟩|⟨b,cap,cs,h1,h2,h3⟩⟩:=h
 ·exact ⟨[],by rw[h3]; rfl,h0,.inl ⟨h1,h2,rfl⟩⟩
 ·exact ⟨[_],by rw[h2]; rfl,h0,.inr ⟨b,cap,cs,h1,rfl,h3⟩⟩
theorem storeX_weak {P:Program} {t:TypeId} {a v:Value} {wb:World} {L L':Own} {K:Own→Prop} (hs:∀ w,Sy wb L w→Sy wb L' w) (h:StoreX P t a v wb L' (tag K)):StoreX P t a v wb L (tag K):=by
 obtain ⟨L2,h1,h2⟩:=h
 exact ⟨L2,fun w hw=>h1 w (hs w hw),h2⟩
end Go.Proofs.YtilejcofleeeiaaGreatDoor
