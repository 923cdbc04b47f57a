/- YtilejcofleeeiaaGreatDoor: walks, part 81: strings of the library: utf8.ValidString and strings.Compare by the shelf's contracts (their layings are written by the kit's lay-plain.mjs). -/
import Derived.Lib.AtoiAll
import Derived.Lib.ParseIntB
import Derived.Lib.ItoaNum
import Derived.Test.YtilejcofleeeiaaGreatDoorW217
import Derived.Lib.AppendIntMem
import Derived.Lib.SmallJoins
import Derived.BigCall
import Derived.BigGuard
import Derived.Shelf.Unicode.ValidAny
import Derived.Shelf.Small.Strs
namespace Go.Proofs.YtilejcofleeeiaaGreatDoor
open Go
open Nat renaming reduceEqDiff → qE
set_option maxRecDepth 100000
set_option linter.unusedVariables false
set_option linter.unusedSimpArgs false
def runP (f:UInt8→Bool) (s:List UInt8) (p:Nat):Nat:=p+((s.drop p).takeWhile f).length
theorem runP_step {f:UInt8→Bool} {s:List UInt8} {p:Nat} {c:UInt8} (h:s[p]?=some c) (hf:f c=true):runP f s p=runP f s (p+1):=by
 obtain ⟨h1,rfl⟩:=List.getElem?_eq_some_iff.1 h
 unfold runP
 rw[List.drop_eq_getElem_cons h1,List.takeWhile_cons,if_pos hf,List.length_cons]
 omega
theorem runP_stop {f:UInt8→Bool} {s:List UInt8} {p:Nat} {c:UInt8} (h:s[p]?=some c) (hf:f c=false):runP f s p=p:=by
 obtain ⟨h1,rfl⟩:=List.getElem?_eq_some_iff.1 h
 unfold runP
 rw[List.drop_eq_getElem_cons h1,List.takeWhile_cons,if_neg (by rw[hf]; decide)]
 rfl
theorem runP_end {f:UInt8→Bool} {s:List UInt8} {p:Nat} (h:s.length≤p):runP f s p=p:=by
 unfold runP
 rw[List.drop_of_length_le h]
 rfl
theorem runP_ge (f:UInt8→Bool) (s:List UInt8) (p:Nat):p≤runP f s p:=Nat.le_add_right _ _
theorem runP_le {f:UInt8→Bool} {s:List UInt8} {p:Nat} (h:p≤s.length):runP f s p≤s.length:=by
 have h1:=(List.takeWhile_sublist (p:=f) (l:=s.drop p)).length_le
 rw[List.length_drop] at h1
 unfold runP
 omega
def rowP (f:UInt8→Bool) (s:List UInt8) (p:Nat):List UInt8:=(s.drop p).takeWhile f
theorem runP_eq (f:UInt8→Bool) (s:List UInt8) (p:Nat):runP f s p=p+(rowP f s p).length:=rfl
theorem rowP_eq (f:UInt8→Bool) (s:List UInt8) (p:Nat):rowP f s p=(s.take (runP f s p)).drop p:=by
 have h1:rowP f s p <+: s.drop p:=List.takeWhile_prefix f
 rw[List.drop_take,runP_eq,Nat.add_sub_cancel_left]
 exact List.prefix_iff_eq_take.1 h1
/-! Decimal numerals. -/
def dgB (c:UInt8):Bool:=decide (48≤c.toNat∧c.toNat≤57)
def nmO (w:List UInt8):Nat:=w.foldl (fun n c=>10 * n+(c.toNat - 48)) 0
theorem nmO_append (w:List UInt8) (c:UInt8):nmO (w++[c])=10 * nmO w+(c.toNat - 48):=by unfold nmO; rw[List.foldl_append]; rfl
theorem dgB_iff (c:UInt8):dgB c=true↔48≤c.toNat∧c.toNat≤57:=by unfold dgB; simp
theorem dec_all:∀ (u:Nat),(∀ c∈Lib.decDigits u,dgB c=true)∧Lib.decDigits u≠[]∧(u < 10→(Lib.decDigits u).length=1)∧(0 < u→(Lib.decDigits u).head?≠some 48)∧nmO (Lib.decDigits u)=u:=by
 intro u
 induction u using Nat.strongRecOn with
 | _ u ih =>
  have hd:∀ d,d < 10→(UInt8.ofNat (48+d)).toNat=48+d:=fun d hd=>by rw[UInt8.toNat_ofNat']; omega
  by_cases h:u < 10
  ·rw[Lib.decDigits,dif_pos h]
   refine ⟨fun c hc=>?_,by simp,fun _=>rfl,fun h0 e=>?_,?_⟩
   ·rw[List.mem_singleton.1 hc,dgB_iff,hd u h]; omega
   ·simp only[List.head?_cons,Option.some.injEq] at e
    have:=congrArg UInt8.toNat e
    rw[hd u h] at this
    have h48:(48:UInt8).toNat=48:=rfl
    omega
   ·show 10 * 0+((UInt8.ofNat (48+u)).toNat - 48)=u
    rw[hd u h]; omega
  ·obtain ⟨h1,h2,_,h4,h5⟩:=ih (u / 10) (by omega)
   rw[Lib.decDigits,dif_neg h]
   have hm:=hd (u % 10) (by omega)
   refine ⟨fun c hc=>?_,by simp,fun h0=>absurd h0 h,fun h0=>?_,?_⟩
   ·rcases List.mem_append.1 hc with hc|hc
    ·exact h1 c hc
    ·rw[List.mem_singleton.1 hc,dgB_iff,hm]; omega
   ·obtain ⟨x,r,e⟩:=List.exists_cons_of_ne_nil h2
    have:=h4 (by omega)
    rw[e] at this ⊢
    simpa using this
   ·rw[nmO_append,h5,hm]; omega
theorem dec_inj {a b:Nat} (h:Lib.decDigits a=Lib.decDigits b):a=b:=by
 rw[← (dec_all a).2.2.2.2,← (dec_all b).2.2.2.2,h]
theorem dec_pos (u:Nat):0 < (Lib.decDigits u).length:=List.length_pos_iff.2 (dec_all u).2.1
theorem itoa_head (n:Int):∃ c r,Lib.itoa n=c::r∧(c=45∨dgB c=true)∧∀ x∈r,dgB x=true:=by
 unfold Lib.itoa
 split
 ·exact ⟨45,_,rfl,.inl rfl,(dec_all _).1⟩
 ·obtain ⟨h1,h2,_⟩:=dec_all n.toNat
  obtain ⟨c,r,e⟩:=List.exists_cons_of_ne_nil h2
  exact ⟨c,r,e,.inr (h1 c (by rw[e]; exact .head _)),fun x hx=>h1 x (by rw[e]; exact .tail _ hx)⟩
theorem itoa_inj {a b:Int} (h:Lib.itoa a=Lib.itoa b):a=b:=by
 have key:∀ n:Nat,∀ r,Lib.decDigits n≠45::r:=fun n r e=>by
  have:=(dec_all n).1 45 (by rw[e]; exact .head _)
  exact absurd this (by decide)
 unfold Lib.itoa at h
 split at h<;>split at h
 ·have:=dec_inj (List.cons.inj h).2; omega
 ·exact absurd h.symm (key _ _)
 ·exact absurd h (key _ _)
 ·have:=dec_inj h; omega
theorem parseM_dec (M:Nat) (hM:M≤18446744073709551615):∀ (w:List UInt8) (acc:Nat),(∀ c∈w,dgB c=true)→w.foldl (fun n c=>10 * n+(c.toNat - 48)) acc≤M→Lib.parseUintM M acc w=.ok (w.foldl (fun n c=>10 * n+(c.toNat - 48)) acc)
 | [],acc,hd,hl=>rfl
 | c::w,acc,hd,hl=>by
  have hc:=(dgB_iff c).1 (hd c (.head _))
  rw[List.foldl_cons] at hl ⊢
  have mono:∀ (w:List UInt8) (n:Nat),n≤w.foldl (fun n c=>10 * n+(c.toNat - 48)) n:=fun w=>by
   induction w with
   | nil=>exact fun n=>Nat.le_refl n
   | cons x w ih=>exact fun n=>Nat.le_trans (show n≤10 * n+(x.toNat - 48) by omega) (ih _)
  have h1:=mono w (10 * acc+(c.toNat - 48))
  rw[Lib.parseUintM,if_pos hc,if_neg (by omega),if_neg (by omega),Nat.mul_comm acc 10]
  exact parseM_dec M hM w _ (fun x hx=>hd x (.tail _ hx)) hl
theorem parseU_dec (u:Nat) (hu:u≤18446744073709551615):Lib.parseUintB 64 (Lib.decDigits u)=.ok u:=by
 obtain ⟨h1,h2,_,_,h5⟩:=dec_all u
 unfold Lib.parseUintB
 rw[if_neg h2,parseM_dec (2 ^ 64 - 1) (by decide) _ 0 h1 (by rw[show List.foldl (fun n c=>10 * n+(c.toNat - 48)) 0 (Lib.decDigits u)=nmO (Lib.decDigits u) from rfl,h5]; exact hu)]
 exact congrArg Lib.NumEnd.ok h5
theorem parseM_lt (M:Nat):∀ (w:List UInt8) (acc u:Nat),acc≤M→Lib.parseUintM M acc w=.ok u→u≤M
 | [],acc,u,ha,h=>by
  simp only[Lib.parseUintM] at h
  injection h with h
  omega
 | c::w,acc,u,ha,h=>by
  simp only[Lib.parseUintM] at h
  split at h
  ·split at h
   ·cases h
   ·split at h
    ·cases h
    ·exact parseM_lt M w _ u (by omega) h
  ·cases h
theorem parseU_lt {w:List UInt8} {u:Nat} (h:Lib.parseUintB 64 w=.ok u):u≤18446744073709551615:=by
 unfold Lib.parseUintB at h
 split at h
 ·cases h
 ·exact parseM_lt (2 ^ 64 - 1) w 0 u (by decide) h
theorem parseI_itoa (n:Int) (h1 : -9223372036854775808≤n) (h2:n < 9223372036854775808):Lib.parseIntB 64 (Lib.itoa n)=.ok n:=by
 unfold Lib.itoa
 split
 ·rename_i hn
  unfold Lib.parseIntB
  simp only
  rw[if_pos (show (45:UInt8).toNat=43∨(45:UInt8).toNat=45 from .inr rfl),parseU_dec _ (by omega)]
  simp only
  rw[if_neg (fun h=>h.1 rfl),if_neg (by simp; omega),if_pos (show (45:UInt8).toNat=45 from rfl)]
  congr 1
  omega
 ·rename_i hn
  obtain ⟨q1,q2,_⟩:=dec_all n.toNat
  obtain ⟨c,r,e⟩:=List.exists_cons_of_ne_nil q2
  have hc:=(dgB_iff c).1 (q1 c (by rw[e]; exact .head _))
  rw[e]
  unfold Lib.parseIntB
  simp only
  rw[if_neg (by omega),← e,parseU_dec _ (by omega)]
  simp only
  rw[if_neg (by simp; omega),if_neg (by omega),if_neg (by omega)]
  congr 1
  omega
theorem parseI_range {w:List UInt8} {n:Int} (h:Lib.parseIntB 64 w=.ok n) : -9223372036854775808≤n∧n < 9223372036854775808:=by
 unfold Lib.parseIntB at h
 split at h
 ·cases h
 ·simp only at h
  split at h
  ·cases h
  ·cases h
  ·rename_i u hu
   split at h
   ·cases h
   ·split at h
    ·cases h
    ·injection h with h
     rename_i q1 q2
     split at h<;>omega
theorem parse10_M:∀ (w:List UInt8) (acc:Nat),Lib.parseUint10 acc w=Lib.parseUintM 18446744073709551615 acc w
 | [],acc=>rfl
 | c::w,acc=>by
  rw[Lib.parseUint10,Lib.parseUintM]
  split
  ·split
   ·rfl
   ·by_cases h:18446744073709551616≤acc * 10+(c.toNat - 48)
    ·rw[if_pos h,if_pos (by omega)]
    ·rw[if_neg h,if_neg (by omega)]
     exact parse10_M w _
  ·rfl
theorem atoi_parseI (w:List UInt8):Lib.atoiAll w=Lib.parseIntB 64 w:=by
 have hm:∀ l,Lib.parseMag l=Lib.parseUintB 64 l:=fun l=>by
  unfold Lib.parseMag Lib.parseUintB
  split
  ·rfl
  ·exact parse10_M l 0
 unfold Lib.atoiAll Lib.parseIntB
 split
 ·rfl
 ·simp only[hm]
  rfl
open Go Go.K Go.RowKit Go.Sort
set_option maxHeartbeats 6400000
theorem formatUint_in (u:Nat) (hu64:u < 18446744073709551616) (w:World) (htab:Lib.TabIs Tryz.prog w "internal/strconv.uint64pow10" .u64 Lib.pow10Tab) :
 Calls Tryz.prog 86 #[.int .u64 u,.int .i64 10] w fun e w'=>e=.returned (.string ⟨(Lib.decDigits u).toArray⟩)∧∃ k os,w'=grow (w.drewN k) os:=by
 have mixed:=mixed
 have t3:=Tryz.underlying3; have a3:=Tryz.isAgg3; have z3:=Tryz.sizeOf3; have v3:=Tryz.zeroValue3
 have t9:=Tryz.underlying9; have a9:=Tryz.isAgg9; have z9:=Tryz.sizeOf9; have v9:=Tryz.zeroValue9
 have t4:=Tryz.underlying4; have a4:=Tryz.isAgg4; have z4:=Tryz.sizeOf4; have v4:=Tryz.zeroValue4
 have t171:=Tryz.underlying156; have a171:=Tryz.isAgg156; have z171:=Tryz.sizeOf156; have v171:=Tryz.zeroValue156
 have t53:=Tryz.underlying80; have a53:=Tryz.isAgg80; have z53:=Tryz.sizeOf80; have v53:=Tryz.zeroValue80
 have t37:=Tryz.underlying54; have a37:=Tryz.isAgg54; have z37:=Tryz.sizeOf54; have v37:=Tryz.zeroValue54
 have t5:=Tryz.underlying5; have a5:=Tryz.isAgg5; have z5:=Tryz.sizeOf5; have v5:=Tryz.zeroValue5
 have e283:∀ args w,(callFunc 117 args).run Tryz.prog w=.ok (.enter 117 args) w:=enters_of Tryz.func117 (by kernel_rfl) rfl
 have e284:∀ args w,(callFunc 118 args).run Tryz.prog w=.ok (.enter 118 args) w:=enters_of Tryz.func118 (by kernel_rfl) rfl
 have e285:∀ args w,(callFunc 119 args).run Tryz.prog w=.ok (.enter 119 args) w:=enters_of Tryz.func119 (by kernel_rfl) rfl
 by_cases hi:u < 100
 ·have hi':(u:Int) < 100:=by omega
  have hcv:IntKind.i64.wrap (u:Int)=u:=by rw[show IntKind.i64.wrap (u:Int)=_ from IntKind.wrap_i64 _]; omega
  go_enter Tryz.func86,Tryz.ntmps86
  go_wp2_with (go_at_fn 117; refine (Any.internal_strconv_small { laysFmtI with } u hi _).mono ?_; rintro e w' ⟨rfl,rfl⟩)
  go_ret
  exact ⟨rfl,0,#[],by simp[World.drewN_zero]⟩
 ·have hi':¬ (u:Int) < 100:=by omega
  have hu1:1≤u:=by omega
  have hnd20:Lib.nDigits u≤20:=by have:=Lib.numDigits_eq u hu1 hu64; split at this<;>omega
  have hal:Tryz.prog.arrayLen 156=24:=by simp[Program.arrayLen,t171]
  have hsl1:∀ W,(Instr.sliceAt 156 (.pointer (some ⟨w.heap.size,0,none⟩)) none (some (.int .i64 (Lib.nDigits u:Int))) none).run Tryz.prog W=.ok (.slice (some ⟨w.heap.size,0,none⟩) (Lib.nDigits u) 24) W:=fun W=>by
   rw[run_sliceAt_array_h W 156 ⟨w.heap.size,0,none⟩ (by simp[Program.arrayLen,Program.elem,t171]) .i64 (Lib.nDigits u:Int) (by omega) (by rw[hal]; omega)]
   go_simp
  have hH0:=Lib.holds_zero0 w 156 (Lib.nDigits u) (by omega)
  have hfmt:=Any.internal_strconv_formatBase10 { laysFmtI with } w.heap.size 0 24 u (Array.replicate (Lib.nDigits u) 0) (w.alloc (.cells Lib.zeros24 156)) hH0 (by rw[Array.size_replicate]; exact Lib.lt_pow_nDigits u) hu64 (by rw[Array.size_replicate]; omega)
  rw[Array.size_replicate] at hfmt
  have HH0:=Lib.hid hH0
  clear hH0 hal
  go_enter Tryz.func86,Tryz.ntmps86
  go_wp2_with (first
   | (go_at_fn 118; refine (Any.internal_strconv_numDigits { laysFmtI with } u hu1 hu64 _ (Lib.tabIs_alloc htab _)).mono ?_; rintro e w' ⟨rfl,rfl⟩))
  go_at_fn 119
  refine hfmt.mono ?_
  rintro e w' ⟨rfl,k,v',dk,rfl,hF⟩
  have hcv:(convert 54 9 (.slice (some ⟨w.heap.size,0,none⟩) (Lib.nDigits u) 24)).run Tryz.prog ((putRow (fun (b:UInt8)=>Value.int .u8 (b.toNat:Int)) (w.alloc (.cells Lib.zeros24 156)) w.heap.size 0 dk).drewN k)=.ok (.string ⟨(Lib.decDigits u).toArray⟩) ((putRow (fun (b:UInt8)=>Value.int .u8 (b.toNat:Int)) (w.alloc (.cells Lib.zeros24 156)) w.heap.size 0 dk).drewN k):=by
   have h:=run_convert_bytes_back (P:=Tryz.prog) ((putRow (fun (b:UInt8)=>Value.int .u8 (b.toNat:Int)) (w.alloc (.cells Lib.zeros24 156)) w.heap.size 0 dk).drewN k) 54 9 5 ⟨w.heap.size,0,none⟩ 24 (Lib.decDigits u) t37 t5 t9 (fun j hj=>by
    rw[Lib.row_is_numeral hF j hj,Lib.add_plain,World.cell?_drewN]
    exact cell?_putRow (fun (b:UInt8)=>Value.int .u8 (b.toNat:Int)) _ w.heap.size 0 _ dk HH0.out (by rw[hF.size,Array.size_replicate]) j (by rw[hF.size]; rw[Lib.decDigits_length] at hj; exact hj))
   rw[Lib.decDigits_length] at h
   exact h
  go_wp2
  go_ret
  obtain ⟨os,eo⟩:=Lib.fin_at w (.cells Lib.zeros24 156) dk k 0
  exact ⟨rfl,k,os,eo⟩
def LibV (w:World):Prop:=Lib.TabIs Tryz.prog w "internal/strconv.uint64pow10" .u64 Lib.pow10Tab∧(∀ g:Nat,g=4∨g=5→∃ ev,w.cell? ⟨g,0,none⟩=some ev∧(ev=.nilIface∨∃ te pe,ev=.iface te pe))∧True
theorem cell_lt {w:World} {g:Nat} {v:Value} (h:w.cell? ⟨g,0,none⟩=some v):g < w.heap.size:=by
 rcases Nat.lt_or_ge g w.heap.size with h3|h3
 ·exact h3
 ·exfalso
  simp only[World.cell?,Array.getElem?_eq_none h3] at h
  cases h
theorem LibV.mono {w w':World} {L:Own} (h:LibV w) (hs:Sy w L w') (hn:∀ p∈L,w.heap.size≤p.1):LibV w':=by
 have hb:=(hs.end hn).below
 have key:∀ (g:Nat) (v:Value),w.cell? ⟨g,0,none⟩=some v→w'.cell? ⟨g,0,none⟩=some v:=fun g v hv=>by
  rw[← hv]
  simp only[World.cell?,hb.block g (cell_lt hv)]
 refine ⟨Lib.tabBelow_of_tabIs h.1 w' hb,fun g hg=>?_,?_⟩
 ·obtain ⟨ev,h1,h2⟩:=h.2.1 g hg
  exact ⟨ev,key g ev h1,h2⟩
 ·trivial
theorem sy_grow (w:World) (k:Nat) (os:Array Obj):Sy w [] (Go.Sort.grow (w.drewN k) os):=by
 refine ⟨rfl,rfl,rfl,?_,by simp,by simp,fun j hj _=>?_⟩
 ·show w.heap.size≤(w.heap++os).size
  rw[Array.size_append]; omega
 ·show (w.heap++os)[j]?=w.heap[j]?
  rw[Array.getElem?_append_left hj]
theorem formatUint_walk (w:World) (hl:LibV w) (u:Nat) (hu:u < 18446744073709551616):Calls Tryz.prog 48 #[.int .u64 u,i64 10] w (Rets w (Is (str (Lib.decDigits u)))):=by
 refine enterT (args:=[.int .u64 u,i64 10]) Tryz.func48 rfl Tryz.ntmps48 (congrArg Array.toList Tryz.results48) (by kernel_rfl) (by simp) (Sy.refl w) ?_
 refine sp ?_
 refine callV en_86 (cIs (fun w' hw'=>(formatUint_in u hu w' (hl.mono hw' (by simp)).1).mono fun e w2 ⟨he,k,os,ew⟩=>⟨_,he,by rw[ew]; exact sy_grow w' k os,rfl⟩) ?_)
 refine sp ?_
 exact finIs (by simp) rfl
theorem formatInt_walk (w:World) (hl:LibV w) (n:Int) (h0 : -9223372036854775808≤n) (h1:n < 9223372036854775808):Calls Tryz.prog 54 #[i64 n,i64 10] w (Rets w (Is (str (Lib.itoa n)))):=by
 refine (Any.strconv_FormatInt_10 laysFmtI n h0 (by omega) w hl.1).mono ?_
 rintro e w' ⟨rfl,k,os,rfl⟩
 exact ⟨_,rfl,sy_grow w k os,rfl⟩
theorem itoa_walk (w:World) (hl:LibV w) (n:Int) (h0 : -9223372036854775808≤n) (h1:n < 9223372036854775808):Calls Tryz.prog 87 #[i64 n] w (Rets w (Is (str (Lib.itoa n)))):=by
 refine (Any.strconv_Itoa laysItoa n h0 (by omega) w hl.1).mono ?_
 rintro e w' ⟨rfl,k,os,rfl⟩
 exact ⟨_,rfl,sy_grow w k os,rfl⟩
theorem formatBool_walk (w:World) (b:Bool):Calls Tryz.prog 47 #[.bool b] w (Rets w (Is (str (Lib.formatBool b)))):=by
 refine (Any.strconv_FormatBool laysFmtB b w).mono ?_
 rintro e w' ⟨rfl,rfl⟩
 exact ⟨_,rfl,Sy.refl _,rfl⟩
end Go.Proofs.YtilejcofleeeiaaGreatDoor
namespace Go.K
open Go
open Nat renaming reduceEqDiff → qE
theorem convN {P:Program} {wb:World} {L:Own} {src dst e:TypeId} (s:List UInt8) {K:Value→World→Own→Prop} (hs:P.underlying src=some .string) (hd:P.underlying dst=some (.slice e)) (he:P.underlying e=some (.int .u8))
 (h:∀ (b cap:Nat) (cs:List Value) (fr:Nat×Nat),wb.heap.size≤b→b∉L.map (·.1)→(∀ (i:Nat) (c:UInt8),s[i]?=some c→cs[i]?=some (.int .u8 c.toNat))→K (.slice (some ⟨b,0,none⟩) s.length cap) wb ((b,.cells cs.toArray e fr)::L)) :
 ConvX P src dst (str s) wb L (tag K):=by
 intro w hw
 have hr:=run_bytes_of_string w src dst e ⟨s.toArray⟩ hs hd he
 have hsz:(⟨s.toArray⟩:ByteArray).size=s.length:=by show s.toArray.size=_; simp
 rw[hsz] at hr
 refine ⟨_,_,wb,_,hr,(hw.drew).new _,?_⟩
 have h1:=h w.heap.size (grownCap w s.length 0 e) (bytesRow ⟨s.toArray⟩ (grownCap w s.length 0 e)).toList ((bytesRow ⟨s.toArray⟩ (grownCap w s.length 0 e)).size,(bytesRow ⟨s.toArray⟩ (grownCap w s.length 0 e)).size+1) hw.size hw.fresh (fun i c hc=>by
  have hi:=(List.getElem?_eq_some_iff.1 hc).1
  have h2:=bytesRow_at ⟨s.toArray⟩ (grownCap w s.length 0 e) i (by show i < s.toArray.size; simpa using hi)
  rw[Array.getElem?_toList,h2]
  have h3:=(List.getElem?_eq_some_iff.1 hc).2
  simp[h3])
 exact h1
end Go.K
namespace Go.Proofs.YtilejcofleeeiaaGreatDoor
open Go Go.K
open Nat renaming reduceEqDiff → qE
set_option maxRecDepth 100000
set_option linter.unusedVariables false
set_option linter.unusedSimpArgs false
set_option maxHeartbeats 4000000
theorem wu64 {n:Int} (h0:0≤n) (h1:n < 18446744073709551616):IntKind.u64.wrap n=n:=by rw[IntKind.wrap_u64]; omega
def lowB (c:UInt8):Int:=bits .or .u8 (c.toNat:Int) 32
theorem lower_walk (w:World) (c:UInt8):Calls Tryz.prog 154 #[.int .u8 c.toNat] w (Rets w (Is (.int .u8 (lowB c)))):=by
 refine enterT (args:=[.int .u8 c.toNat]) Tryz.func154 rfl Tryz.ntmps154 (congrArg Array.toList Tryz.results154) (by kernel_rfl) (by simp) (Sy.refl w) ?_
 refine sp ?_
 refine ⟨.int .u8 (lowB c),fun w=>rfl,?_⟩
 refine sp ?_
 exact finIs (by simp) rfl
def dig36 (c:UInt8):Option Nat:=if 48≤c.toNat∧c.toNat≤57 then some (c.toNat - 48) else if 97≤lowB c∧lowB c≤122 then some (lowB c - 87).toNat else none
def parse16:List UInt8→Nat→Option Nat
 | [],acc=>some acc
 | c::r,acc=>match dig36 c with
  | none=>none
  | some d=>if 16≤d∨1152921504606846976≤acc then none else parse16 r (acc * 16+d)
def P16S (s:List UInt8) (v:Value):Prop:=(∃ u:Nat,u < 18446744073709551616∧s≠[]∧parse16 s 0=some u∧v=.tuple #[.int .u64 u,.nilIface])∨((s=[]∨parse16 s 0=none)∧∃ n k:Int,0≤n∧n < 18446744073709551616∧(k=1∨k=2)∧v=.tuple #[.int .u64 n,.iface 185 (i64 k)])
structure P16I (w0:World) (s:List UInt8) (b cap:Nat) (fr:Nat×Nat) (cs:List Value) (i acc:Nat) (wb:World) (e:Env) (ds:List Deferred) (L:Own):Prop where
 hw:wb=w0
 hds:ds=[]
 o:L=[(b,Obj.cells cs.toArray 5 fr)]
 hi:i≤s.length
 ha:acc < 18446744073709551616
 hp:parse16 s 0=parse16 (s.drop i) acc
 h1:e 1=i64 16
 h8:e 8=.bool false
 h10:e 10=.int .u64 1152921504606846976
 h11:e 11=.int .u64 18446744073709551615
 h12:e 12=.bool false
 h13:e 13=.int .u64 acc
 h99:e 99=.slice (some ⟨b,0,none⟩) s.length cap
 h100:e 100=i64 s.length
 h101:e 101=i64 i
structure P16A (w0:World) (s:List UInt8) (b cap:Nat) (fr:Nat×Nat) (cs:List Value) (i acc:Nat) (c:UInt8) (wb:World) (e:Env) (ds:List Deferred) (L:Own):Prop where
 hw:wb=w0
 hds:ds=[]
 o:L=[(b,Obj.cells cs.toArray 5 fr)]
 h1:e 1=i64 16
 h8:e 8=.bool false
 h10:e 10=.int .u64 1152921504606846976
 h11:e 11=.int .u64 18446744073709551615
 h12:e 12=.bool false
 h13:e 13=.int .u64 acc
 h16:∃ d,dig36 c=some d∧d < 256∧e 16=.int .u8 (d:Int)
 h99:e 99=.slice (some ⟨b,0,none⟩) s.length cap
 h100:e 100=i64 s.length
 h101:e 101=i64 i
theorem P16S.no {s:List UInt8} (h:parse16 s 0=none) {n k:Int} (h0:0≤n) (h1:n < 18446744073709551616) (hk:k=1∨k=2):P16S s (.tuple #[.int .u64 n,.iface 185 (i64 k)]):=.inr ⟨.inr h,n,k,h0,h1,hk,rfl⟩
theorem parse16_in (w:World) (s:List UInt8) (hs:s.length≤1000000):Calls Tryz.prog 132 #[str s,i64 16,i64 64] w (Rets w fun v _=>P16S s v):=by
 refine enterT (args:=[str s,i64 16,i64 64]) Tryz.func132 rfl Tryz.ntmps132 (congrArg Array.toList Tryz.results132) (by kernel_rfl) (by simp) (Sy.refl w) ?_
 refine sp ?_
 rw[Vc]
 refine sp ?_
 refine cdD (fun h0=>?_) (fun h0=>?_)
 ·refine sp ?_
  exact finEx (by simp) (fun w' hw'=>.inr ⟨.inl h0,0,2,by decide,by decide,.inr rfl,rfl⟩)
 simp (disch:=omega) only[push_cast,qE,Int.reduceLE,Int.reduceEq,Int.reduceLT,decide_true,decide_false]
 rw[Vb]
 simp (disch:=omega) only[push_cast,qE,Int.reduceLE,Int.reduceEq,Int.reduceLT,decide_true,decide_false]
 rw[Vc]
 simp (disch:=omega) only[push_cast,qE,Int.reduceLE,Int.reduceEq,Int.reduceLT,decide_true,decide_false]
 rw[Vc]
 simp (disch:=omega) only[push_cast,qE,Int.reduceLE,Int.reduceEq,Int.reduceLT,decide_true,decide_false]
 rw[Vc]
 simp (disch:=omega) only[push_cast,qE,Int.reduceLE,Int.reduceEq,Int.reduceLT,decide_true,decide_false]
 rw[Vb]
 simp (disch:=omega) only[push_cast,qE,Int.reduceLE,Int.reduceEq,Int.reduceLT,decide_true,decide_false]
 rw[Vc]
 simp (disch:=omega) only[push_cast,qE,Int.reduceLE,Int.reduceEq,Int.reduceLT,decide_true,decide_false]
 rw[Vc]
 simp (disch:=omega) only[push_cast,qE,Int.reduceLE,Int.reduceEq,Int.reduceLT,decide_true,decide_false]
 refine ⟨.int .u64 0,fun w=>by kernel_rfl,?_⟩
 simp (disch:=omega) only[push_cast,qE,Int.reduceLE,Int.reduceEq,Int.reduceLT,decide_true,decide_false]
 refine convN s Tryz.underlying9 un_54 Tryz.underlying5 (fun b cap cs fr hb hn hcs=>?_)
 simp (disch:=omega) only[push_cast,qE,Int.reduceLE,Int.reduceEq,Int.reduceLT,decide_true,decide_false]
 rw[Vb]
 simp (disch:=omega) only[push_cast,qE,Int.reduceLE,Int.reduceEq,Int.reduceLT,decide_true,decide_false]
 have hL:∀ p∈[(b,Obj.cells cs.toArray 5 fr)],w.heap.size≤p.1:=fun p hp=>by rw[List.mem_singleton.1 hp]; exact hb
 refine loopW (G:=Nat×Nat) (fun g=>P16I w s b cap fr cs g.1 g.2) (fun g=>s.length - g.1) (0,0) _ (fun w hw=>hw) (by kernel_rfl) ⟨rfl,rfl,rfl,Nat.zero_le _,by decide,rfl,rfl,rfl,rfl,rfl,rfl,rfl,rfl,rfl,rfl⟩ ?_
 rintro ⟨i,acc⟩ wb e ds L ⟨rfl,rfl,rfl,hi,ha,hp,h1,h8,h10,h11,h12,h13,h99,h100,h101⟩
 simp only at hi ha hp h1 h8 h10 h11 h12 h13 h99 h100 h101
 simp (disch:=omega) only[push_cast,qE,h100,h101]
 rw[Vc]
 simp (disch:=omega) only[push_cast,qE,h100,h101]
 refine cdD (fun hlt=>?_) (fun hge=>?_)
 rotate_left
 ·obtain rfl:i=s.length:=by omega
  have hd:parse16 s 0=some acc:=by rw[hp,List.drop_length]; rfl
  simp (disch:=omega) only[push_cast,qE,h12]
  rw[Vc]
  simp (disch:=omega) only[push_cast,qE,h12,h13]
  exact finEx hL (fun w' hw'=>.inl ⟨acc,ha,h0,hd,rfl⟩)
 obtain ⟨c,hc⟩:∃ c,s[i]?=some c:=⟨_,List.getElem?_eq_getElem (by omega)⟩
 have hlt':i < s.length:=by omega
 simp (disch:=omega) only[push_cast,qE,h99,h101]
 rw[Vb]
 simp (disch:=omega) only[push_cast,qE,h99,h101]
 refine lOn Shp.eq mem0 (by rw[Nat.mul_one]; exact hcs i c hc) ?_
 simp (disch:=omega) only[push_cast,qE,h1,h8,h10,h11,h13]
 have hcl:=c.toNat_lt
 have hstep:parse16 s 0=match dig36 c with
  | none=>none
  | some d=>if 16≤d∨1152921504606846976≤acc then none else parse16 (s.drop (i+1)) (acc * 16+d):=by
  obtain ⟨hc1,hc2⟩:=List.getElem?_eq_some_iff.1 hc
  rw[hp,List.drop_eq_getElem_cons hc1,hc2]
  rfl
 refine cutV (P16A wb s b cap fr cs i acc c) ?_ ?_
 ·rw[Vb]
  simp (disch:=omega) only[push_cast,qE,h1,h8,h10,h11,h13]
  refine gT rfl (fun h95=>?_) (fun h95=>?_)
  all_goals
   simp (disch:=omega) only[push_cast,qE,h8]
   rw[Vc]
   simp (disch:=omega) only[push_cast,qE,h8]
   refine gT rfl (fun h48=>?_) (fun h48=>?_)
  all_goals
   simp (disch:=omega) only[push_cast,qE,h8]
  all_goals rw[Vc]
  all_goals try simp (disch:=omega) only[push_cast,qE,h8]
  all_goals try refine cdD (fun h57=>?_) (fun h57=>?_)
  all_goals try (exfalso; omega)
  all_goals try simp (disch:=omega) only[push_cast,qE,h8]
  all_goals try exact ⟨rfl,rfl,rfl,h1,h8,h10,h11,h12,h13,⟨c.toNat - 48,by unfold dig36; rw[if_pos (by omega)],by omega,congrArg (Value.int .u8) (by omega)⟩,h99,h100,h101⟩
  all_goals
   refine callV en_154 (cIs (fun w' _=>lower_walk w' c) ?_)
   simp (disch:=omega) only[push_cast,qE,h8]
   refine gT rfl (fun h97=>?_) (fun h97=>?_)
  all_goals try simp (disch:=omega) only[push_cast,qE,h8]
  all_goals try refine callV en_154 (cIs (fun w' _=>lower_walk w' c) ?_)
  all_goals try simp (disch:=omega) only[push_cast,qE,h8]
  all_goals rw[Vc]
  all_goals try simp (disch:=omega) only[push_cast,qE,h8]
  all_goals try refine cdD (fun h122=>?_) (fun h122=>?_)
  all_goals try simp (disch:=omega) only[push_cast,qE,h8]
  all_goals try refine callV en_154 (cIs (fun w' _=>lower_walk w' c) ?_)
  all_goals try simp (disch:=omega) only[push_cast,qE,h8]
  all_goals first
   | exact ⟨rfl,rfl,rfl,h1,h8,h10,h11,h12,h13,⟨(lowB c - 87).toNat,by unfold dig36; rw[if_neg (by omega),if_pos (by omega)],by omega,congrArg (Value.int .u8) (by omega)⟩,h99,h100,h101⟩
   | exact finEx hL (fun w' hw'=>P16S.no (by rw[hstep,show dig36 c=none by unfold dig36; rw[if_neg (by omega),if_neg (by omega)]]) (by decide) (by decide) (.inr rfl))
 ·clear h1 h8 h10 h11 h12 h13 h99 h100 h101 e
  rintro wb e ds L ⟨rfl,rfl,rfl,h1,h8,h10,h11,h12,h13,⟨d,hd,hd2,hd16⟩,h99,h100,h101⟩
  rw[hd] at hstep
  simp only at hstep
  simp (disch:=omega) only[push_cast,qE,h1,hd16]
  rw[Vc]
  simp (disch:=omega) only[push_cast,qE,h10,h13]
  refine cdD (fun h16=>?_) (fun h16=>?_)
  ·simp (disch:=omega) only[push_cast,qE,h10,h13]
   exact finEx hL (fun w' hw'=>P16S.no (by rw[hstep,if_pos (.inl (by omega))]) (by decide) (by decide) (.inr rfl))
  simp (disch:=omega) only[push_cast,qE,h10,h13]
  rw[Vc]
  simp (disch:=omega) only[push_cast,qE,h10,h11,h13]
  refine cdD (fun hbig=>?_) (fun hbig=>?_)
  ·simp (disch:=omega) only[push_cast,qE,h11]
   exact finEx hL (fun w' hw'=>P16S.no (by rw[hstep,if_pos (.inr (by omega))]) (by decide) (by decide) (.inl rfl))
  rw[if_neg (by omega)] at hstep
  simp (disch:=omega) only[push_cast,qE,h1,h13,hd16,wu64]
  refine gF rfl (fun hov=>?_) (fun hov=>absurd hov (by omega))
  simp (disch:=omega) only[push_cast,qE,h11]
  rw[Vc]
  simp (disch:=omega) only[push_cast,qE,h11]
  refine cdD (fun hov2=>absurd hov2 (by omega)) (fun hov2=>?_)
  simp (disch:=omega) only[push_cast,qE,h101]
  refine ⟨(i+1,acc * 16+d),_,fun w hw=>hw,⟨rfl,rfl,rfl,by simp only; omega,by simp only; omega,hstep,h1,h8,h10,h11,h12,?_,h99,h100,?_⟩,by simp only; omega⟩
  ·simp only[upd]; first|rfl|exact congrArg (Value.int .u64) (by omega)
  ·simp only[upd]; first|rfl|exact congrArg i64 (by omega)
open Go Go.K Go.Shelf
def TabsAt (w:World):Prop:=Lib.Utf8Tabs (laysValid_ren.g 3) (laysValid_ren.g 4) w
theorem valid_walk (w:World) (hT:TabsAt w) (l:List UInt8) (hl:l.length≤9223372036854775807):Calls Tryz.prog 81 #[str l] w (Rets w (Is (.bool (Lib.validD l)))):=by
 have h:=Any.utf8_ValidString laysValid ⟨l.toArray⟩ w (by simpa [ByteArray.size] using hl) hT
 refine h.mono ?_
 rintro e w' ⟨rfl,hb⟩
 exact ⟨_,rfl,Sy.of_below hb,rfl⟩
open Go Go.K
set_option maxHeartbeats 1000000
abbrev u64 (n:Int):Value:=.int .u64 n
def wholeP (k:Int):Bool:=decide (3≤k) && decide (k≤10)
theorem whole_walk (w:World) (k:Int):Calls Tryz.prog 82 #[i64 k] w (Rets w (Is (.bool (wholeP k)))):=by
 refine enterT (args:=[i64 k]) Tryz.func82 rfl Tryz.ntmps82 (congrArg Array.toList Tryz.results82) (by kernel_rfl) (by simp) (Sy.refl w) ?_
 refine sp ?_
 repeat' (first|((first|((first|refine gT rfl ?_ ?_|refine gF rfl ?_ ?_|refine cdD ?_ ?_)<;>intro h)|((first|refine gbT rfl ?_ ?_|refine gbF rfl ?_ ?_|refine cdB ?_ ?_)<;>intro h<;>(try subst h))|refine lOa Shp.eq rfl ?_|refine lAa Shp.eq rfl rfl ?_|refine newI (fun b hb hn=>?_)|refine sXb Siz.eq rfl rfl ?_)<;>simp (disch:=omega) only[push_cast,qE])|(first|rw[Vc]|rw[Vb])<;>(try simp (disch:=omega) only[push_cast,qE]))
 all_goals refine finIs (by simp) (congrArg Value.bool ?_)
 ·simp[wholeP,h]
 ·simp[wholeP]; omega
def bitsP (k:Int):Int:=if k=3∨k=7 then 8 else if k=4∨k=8 then 16 else if k=5∨k=9 then 32 else 64
theorem kinds8 {k:Int} (h:3≤k∧k≤10):k=3∨k=4∨k=5∨k=6∨k=7∨k=8∨k=9∨k=10:=by omega
theorem sized_walk (w:World) (k:Int) (hk:3≤k∧k≤10):Calls Tryz.prog 115 #[i64 k] w (Rets w (Is (.tuple #[i64 (bitsP k),.bool (decide (k≤6))]))):=by
 refine enterT (args:=[i64 k]) Tryz.func115 rfl Tryz.ntmps115 (congrArg Array.toList Tryz.results115) (by kernel_rfl) (by simp) (Sy.refl w) ?_
 refine sp ?_
 rcases kinds8 hk with rfl|rfl|rfl|rfl|rfl|rfl|rfl|rfl
 all_goals simp (disch:=omega) only[push_cast,qE,Int.reduceLE,decide_true,decide_false]
 all_goals rw[Vc]
 all_goals simp (disch:=omega) only[push_cast,qE,Int.reduceSub]
 ·refine ⟨i64 8,fun w=>by kernel_rfl,?_⟩
  refine sp ?_
  exact finIs (by simp) rfl
 ·refine ⟨i64 16,fun w=>by kernel_rfl,?_⟩
  refine sp ?_
  exact finIs (by simp) rfl
 ·refine ⟨i64 32,fun w=>by kernel_rfl,?_⟩
  refine sp ?_
  exact finIs (by simp) rfl
 ·refine ⟨i64 64,fun w=>by kernel_rfl,?_⟩
  refine sp ?_
  exact finIs (by simp) rfl
 ·refine ⟨i64 8,fun w=>by kernel_rfl,?_⟩
  refine sp ?_
  exact finIs (by simp) rfl
 ·refine ⟨i64 16,fun w=>by kernel_rfl,?_⟩
  refine sp ?_
  exact finIs (by simp) rfl
 ·refine ⟨i64 32,fun w=>by kernel_rfl,?_⟩
  refine sp ?_
  exact finIs (by simp) rfl
 ·refine ⟨i64 64,fun w=>by kernel_rfl,?_⟩
  refine sp ?_
  exact finIs (by simp) rfl
def rangedP (k n:Int):Bool:=if k=6∨k=10 then true else if k≤6 then decide (-(2:Int) ^ (bitsP k - 1).toNat≤n) && decide (n < 2 ^ (bitsP k - 1).toNat) else decide (0≤n) && decide (n < 2 ^ (bitsP k).toNat)
theorem ranged_walk (w:World) (k n:Int) (hk:3≤k∧k≤10):Calls Tryz.prog 83 #[i64 k,i64 n] w (Rets w (Is (.bool (rangedP k n)))):=by
 refine enterT (args:=[i64 k,i64 n]) Tryz.func83 rfl Tryz.ntmps83 (congrArg Array.toList Tryz.results83) (by kernel_rfl) (by simp) (Sy.refl w) ?_
 refine sp ?_
 refine callV en_115 (cIs (fun w' _=>sized_walk w' k hk) ?_)
 rcases kinds8 hk with rfl|rfl|rfl|rfl|rfl|rfl|rfl|rfl
 ·rw[show bitsP 3=8 from rfl]
  simp (disch:=omega) only[push_cast,qE,decide_true,decide_false,Int.reduceEq,Int.reduceLE,Int.reduceSub]
  rw[Vb]
  simp (disch:=omega) only[push_cast,qE,decide_true,decide_false,Int.reduceEq,Int.reduceLE,Int.reduceSub]
  rw[Vc]
  simp (disch:=omega) only[push_cast,qE,decide_true,decide_false,Int.reduceEq,Int.reduceLE,Int.reduceSub]
  rw[Vc]
  simp (disch:=omega) only[push_cast,qE,decide_true,decide_false,Int.reduceEq,Int.reduceLE,Int.reduceSub]
  refine ⟨i64 (-128),fun w=>by kernel_rfl,?_⟩
  refine sp ?_
  have hr:rangedP 3 n=(decide ((-128:Int)≤n) && decide (n < 128)):=rfl
  rw[hr]
  refine gT rfl (fun h=>?_) (fun h=>?_)
  ·simp (disch:=omega) only[push_cast,qE,decide_true,decide_false,Int.reduceEq,Int.reduceLE,Int.reduceSub]
   refine ⟨i64 128,fun w=>by kernel_rfl,?_⟩
   refine sp ?_
   exact finIs (by simp) (by simp[h])
  ·refine sp ?_
   exact finIs (by simp) (by simp[h])
 ·rw[show bitsP 4=16 from rfl]
  simp (disch:=omega) only[push_cast,qE,decide_true,decide_false,Int.reduceEq,Int.reduceLE,Int.reduceSub]
  rw[Vb]
  simp (disch:=omega) only[push_cast,qE,decide_true,decide_false,Int.reduceEq,Int.reduceLE,Int.reduceSub]
  rw[Vc]
  simp (disch:=omega) only[push_cast,qE,decide_true,decide_false,Int.reduceEq,Int.reduceLE,Int.reduceSub]
  rw[Vc]
  simp (disch:=omega) only[push_cast,qE,decide_true,decide_false,Int.reduceEq,Int.reduceLE,Int.reduceSub]
  refine ⟨i64 (-32768),fun w=>by kernel_rfl,?_⟩
  refine sp ?_
  have hr:rangedP 4 n=(decide ((-32768:Int)≤n) && decide (n < 32768)):=rfl
  rw[hr]
  refine gT rfl (fun h=>?_) (fun h=>?_)
  ·simp (disch:=omega) only[push_cast,qE,decide_true,decide_false,Int.reduceEq,Int.reduceLE,Int.reduceSub]
   refine ⟨i64 32768,fun w=>by kernel_rfl,?_⟩
   refine sp ?_
   exact finIs (by simp) (by simp[h])
  ·refine sp ?_
   exact finIs (by simp) (by simp[h])
 ·rw[show bitsP 5=32 from rfl]
  simp (disch:=omega) only[push_cast,qE,decide_true,decide_false,Int.reduceEq,Int.reduceLE,Int.reduceSub]
  rw[Vb]
  simp (disch:=omega) only[push_cast,qE,decide_true,decide_false,Int.reduceEq,Int.reduceLE,Int.reduceSub]
  rw[Vc]
  simp (disch:=omega) only[push_cast,qE,decide_true,decide_false,Int.reduceEq,Int.reduceLE,Int.reduceSub]
  rw[Vc]
  simp (disch:=omega) only[push_cast,qE,decide_true,decide_false,Int.reduceEq,Int.reduceLE,Int.reduceSub]
  refine ⟨i64 (-2147483648),fun w=>by kernel_rfl,?_⟩
  refine sp ?_
  have hr:rangedP 5 n=(decide ((-2147483648:Int)≤n) && decide (n < 2147483648)):=rfl
  rw[hr]
  refine gT rfl (fun h=>?_) (fun h=>?_)
  ·simp (disch:=omega) only[push_cast,qE,decide_true,decide_false,Int.reduceEq,Int.reduceLE,Int.reduceSub]
   refine ⟨i64 2147483648,fun w=>by kernel_rfl,?_⟩
   refine sp ?_
   exact finIs (by simp) (by simp[h])
  ·refine sp ?_
   exact finIs (by simp) (by simp[h])
 ·rw[show bitsP 6=64 from rfl]
  simp (disch:=omega) only[push_cast,qE,decide_true,decide_false,Int.reduceEq,Int.reduceLE,Int.reduceSub]
  rw[Vb]
  simp (disch:=omega) only[push_cast,qE,decide_true,decide_false,Int.reduceEq,Int.reduceLE,Int.reduceSub]
  rw[Vc]
  simp (disch:=omega) only[push_cast,qE,decide_true,decide_false,Int.reduceEq,Int.reduceLE,Int.reduceSub]
  exact finIs (by simp) rfl
 ·rw[show bitsP 7=8 from rfl]
  simp (disch:=omega) only[push_cast,qE,decide_true,decide_false,Int.reduceEq,Int.reduceLE,Int.reduceSub]
  rw[Vb]
  simp (disch:=omega) only[push_cast,qE,decide_true,decide_false,Int.reduceEq,Int.reduceLE,Int.reduceSub]
  rw[Vc]
  simp (disch:=omega) only[push_cast,qE,decide_true,decide_false,Int.reduceEq,Int.reduceLE,Int.reduceSub]
  rw[Vc]
  simp (disch:=omega) only[push_cast,qE,decide_true,decide_false,Int.reduceEq,Int.reduceLE,Int.reduceSub]
  have hr:rangedP 7 n=(decide ((0:Int)≤n) && decide (n < 256)):=rfl
  rw[hr]
  refine gT rfl (fun h=>?_) (fun h=>?_)
  ·simp (disch:=omega) only[push_cast,qE,decide_true,decide_false,Int.reduceEq,Int.reduceLE,Int.reduceSub]
   refine ⟨i64 256,fun w=>by kernel_rfl,?_⟩
   refine sp ?_
   exact finIs (by simp) (by simp[h])
  ·refine sp ?_
   exact finIs (by simp) (by simp[h])
 ·rw[show bitsP 8=16 from rfl]
  simp (disch:=omega) only[push_cast,qE,decide_true,decide_false,Int.reduceEq,Int.reduceLE,Int.reduceSub]
  rw[Vb]
  simp (disch:=omega) only[push_cast,qE,decide_true,decide_false,Int.reduceEq,Int.reduceLE,Int.reduceSub]
  rw[Vc]
  simp (disch:=omega) only[push_cast,qE,decide_true,decide_false,Int.reduceEq,Int.reduceLE,Int.reduceSub]
  rw[Vc]
  simp (disch:=omega) only[push_cast,qE,decide_true,decide_false,Int.reduceEq,Int.reduceLE,Int.reduceSub]
  have hr:rangedP 8 n=(decide ((0:Int)≤n) && decide (n < 65536)):=rfl
  rw[hr]
  refine gT rfl (fun h=>?_) (fun h=>?_)
  ·simp (disch:=omega) only[push_cast,qE,decide_true,decide_false,Int.reduceEq,Int.reduceLE,Int.reduceSub]
   refine ⟨i64 65536,fun w=>by kernel_rfl,?_⟩
   refine sp ?_
   exact finIs (by simp) (by simp[h])
  ·refine sp ?_
   exact finIs (by simp) (by simp[h])
 ·rw[show bitsP 9=32 from rfl]
  simp (disch:=omega) only[push_cast,qE,decide_true,decide_false,Int.reduceEq,Int.reduceLE,Int.reduceSub]
  rw[Vb]
  simp (disch:=omega) only[push_cast,qE,decide_true,decide_false,Int.reduceEq,Int.reduceLE,Int.reduceSub]
  rw[Vc]
  simp (disch:=omega) only[push_cast,qE,decide_true,decide_false,Int.reduceEq,Int.reduceLE,Int.reduceSub]
  rw[Vc]
  simp (disch:=omega) only[push_cast,qE,decide_true,decide_false,Int.reduceEq,Int.reduceLE,Int.reduceSub]
  have hr:rangedP 9 n=(decide ((0:Int)≤n) && decide (n < 4294967296)):=rfl
  rw[hr]
  refine gT rfl (fun h=>?_) (fun h=>?_)
  ·simp (disch:=omega) only[push_cast,qE,decide_true,decide_false,Int.reduceEq,Int.reduceLE,Int.reduceSub]
   refine ⟨i64 4294967296,fun w=>by kernel_rfl,?_⟩
   refine sp ?_
   exact finIs (by simp) (by simp[h])
  ·refine sp ?_
   exact finIs (by simp) (by simp[h])
 ·rw[show bitsP 10=64 from rfl]
  simp (disch:=omega) only[push_cast,qE,decide_true,decide_false,Int.reduceEq,Int.reduceLE,Int.reduceSub]
  rw[Vb]
  simp (disch:=omega) only[push_cast,qE,decide_true,decide_false,Int.reduceEq,Int.reduceLE,Int.reduceSub]
  rw[Vc]
  simp (disch:=omega) only[push_cast,qE,decide_true,decide_false,Int.reduceEq,Int.reduceLE,Int.reduceSub]
  exact finIs (by simp) rfl
end Go.Proofs.YtilejcofleeeiaaGreatDoor
