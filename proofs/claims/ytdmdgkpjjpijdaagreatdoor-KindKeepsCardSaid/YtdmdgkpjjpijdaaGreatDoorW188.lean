/- YtdmdgkpjjpijdaaGreatDoor: walks, part 188: the reference's reader: words of kinds, numbers. -/
import Derived.Test.YtdmdgkpjjpijdaaGreatDoorW187
import Derived.Test.YtdmdgkpjjpijdaaGreatDoorW160
namespace Go.Proofs.YtdmdgkpjjpijdaaGreatDoor
open Go Go.K
open Nat renaming reduceEqDiff → qE
set_option maxRecDepth 100000
set_option linter.unusedVariables false
set_option linter.unusedSimpArgs false
set_option maxHeartbeats 8000000
theorem wordR_walk (w:World) (k:Int) (h1:1≤k) (h2:k≤13):Calls Tryz.prog 113 #[i64 k] w (Rets w (Is (str (saysWord k.toNat)))):=by
 refine enterT (args:=[i64 k]) Tryz.func113 rfl Tryz.ntmps113 (congrArg Array.toList Tryz.results113) (by kernel_rfl) (by simp) (Sy.refl w) ?_
 refine sp ?_
 rw[Vb]
 have hk:k=1∨k=2∨k=3∨k=4∨k=5∨k=6∨k=7∨k=8∨k=9∨k=10∨k=11∨k=12∨k=13:=by omega
 rcases hk with rfl|rfl|rfl|rfl|rfl|rfl|rfl|rfl|rfl|rfl|rfl|rfl|rfl
 all_goals
  refine sd ?_
  repeat (rw[Vc]; simp (disch:=omega) only[push_cast,qE,decide_true,decide_false,Int.reduceEq])
  exact finIs (by simp) rfl
def kP (l:List UInt8):Nat:=if kindW l≤13 then kindW l else 0
def kO (l:List UInt8):Nat:=if 14≤kindW l then kindW l else 0
structure KoI (w0:World) (l:List UInt8) (k:Nat) (wb:World) (e:Env) (ds:List Deferred) (L:Own):Prop where
 hw:wb=w0
 hds:ds=[]
 o:L=[]
 k1:1≤k
 kl:k≤14
 n:∀ j,1≤j→j < k→saysWord j≠l
 h0:e 0=str l
 h3:e 3=i64 k
theorem kindOf_walk (w:World) (l:List UInt8):Calls Tryz.prog 80 #[str l] w (Rets w (Is (i64 (kP l)))):=by
 refine enterT (args:=[str l]) Tryz.func80 rfl Tryz.ntmps80 (congrArg Array.toList Tryz.results80) (by kernel_rfl) (by simp) (Sy.refl w) ?_
 refine sp ?_
 rw[Vb]
 refine sp ?_
 refine loopT (G:=Nat) (KoI w l) (fun k=>14 - k) 1 (by kernel_rfl) ⟨rfl,rfl,rfl,by omega,by omega,fun j h h2=>by omega,rfl,rfl⟩ ?_
 rintro k wb e ds L ⟨rfl,rfl,rfl,hk1,hk,hn,h0,h3⟩
 simp (disch:=omega) only[push_cast,qE,h0,h3]
 rw[Vc]
 simp (disch:=omega) only[push_cast,qE,h0,h3]
 refine cdD (fun hlt=>?_) (fun hge=>?_)
 ·simp (disch:=omega) only[push_cast,qE,h0,h3]
  rw[Vb]
  simp (disch:=omega) only[push_cast,qE,h0,h3]
  refine callV en_113 (cIs (fun w' _=>wordR_walk w' k (by omega) (by omega)) ?_)
  simp (disch:=omega) only[push_cast,qE,h0,h3,Int.toNat_natCast]
  rw[Vc]
  simp (disch:=omega) only[push_cast,qE,h0,h3]
  refine cdD (fun hb=>?_) (fun hb=>?_)
  ·simp (disch:=omega) only[push_cast,qE,h0,h3]
   refine fun w' hw=>⟨_,rfl,hw,?_⟩
   have h:=kindW_of (k:=k) (w:=l) (by omega) (by omega) hb
   unfold kP
   rw[h,if_pos (by omega)]
  ·simp (disch:=omega) only[push_cast,qE,h0,h3]
   refine ⟨k+1,⟨rfl,rfl,rfl,by omega,by omega,fun j hj hj2=>?_,h0,uu⟩,by omega⟩
   rcases Nat.lt_or_ge j k with h|h
   ·exact hn j hj h
   ·obtain rfl:j=k:=by omega
    exact hb
 ·simp (disch:=omega) only[push_cast,qE,h0,h3]
  refine fun w' hw=>⟨_,rfl,hw,?_⟩
  have h:kP l=0:=by
   unfold kP
   by_cases h0:kindW l=0
   ·rw[h0]; rfl
   ·obtain ⟨a1,a2,a3⟩:=kindW_word h0
    refine if_neg (fun h13=>?_)
    exact hn (kindW l) (by omega) (by omega) a3
  rw[h]
  rfl
theorem kO_of {l:List UInt8} (h:kO l≠0):l=[102,105,120,101,100]∨l=[108,105,115,116]∨l=[115,112,97,110]∨l=[115,116,114,117,99,116]∨l=[99,104,111,105,99,101]∨l=[100,105,99,116]∨l=[114,117,110,115]:=by
 unfold kO at h
 split at h
 ·rename_i h14
  obtain ⟨a1,a2,a3⟩:=kindW_word (w:=l) (by omega)
  have hk:kindW l=14∨kindW l=15∨kindW l=16∨kindW l=17∨kindW l=18∨kindW l=19∨kindW l=20:=by omega
  rw[← a3]
  rcases hk with h|h|h|h|h|h|h<;>rw[h]<;>decide
 ·exact absurd rfl h
theorem kindOfOpen_walk (w:World) (l:List UInt8):Calls Tryz.prog 81 #[str l] w (Rets w (Is (i64 (kO l)))):=by
 refine enterT (args:=[str l]) Tryz.func81 rfl Tryz.ntmps81 (congrArg Array.toList Tryz.results81) (by kernel_rfl) (by simp) (Sy.refl w) ?_
 refine sp ?_
 rw[Vb]
 refine sp ?_
 repeat' (first|((first|((first|refine gT rfl ?_ ?_|refine gF rfl ?_ ?_|refine cdD ?_ ?_)<;>intro h)|((first|refine gbT rfl ?_ ?_|refine gbF rfl ?_ ?_|refine cdB ?_ ?_)<;>intro h<;>(try subst h))|refine lOa Shp.eq rfl ?_|refine lAa Shp.eq rfl rfl ?_|refine newI (fun b hb hn=>?_)|refine sXb Siz.eq rfl rfl ?_)<;>simp (disch:=omega) only[push_cast,qE])|(first|rw[Vc]|rw[Vb])<;>(try simp (disch:=omega) only[push_cast,qE]))
 all_goals first
  | (refine finIs (by simp) ?_; subst h; refine congrArg (Value.int .i64) ?_; decide)
  | (refine finIs (by simp) ?_; have h9:kO l=0:=Classical.byContradiction fun h0=>by rcases kO_of h0 with h|h|h|h|h|h|h<;>contradiction
     rw[h9]; rfl)
theorem numOf_lt:∀ (n:Nat) (w:List UInt8),w.length=n→(∀ c∈w,digB c=true)→numOf w < 10 ^ n
 | 0,w,hn,hd=>by rw[List.eq_nil_of_length_eq_zero hn]; decide
 | n+1,w,hn,hd=>by
  have h0:w≠[]:=by rintro rfl; simp at hn
  obtain ⟨v,c,rfl⟩:∃ v c,w=v++[c]:=⟨w.dropLast,w.getLast h0,(List.dropLast_concat_getLast h0).symm⟩
  have hc:=(digB_iff c).1 (hd c (by simp))
  have ih:=numOf_lt n v (un hn) (fun d hd'=>hd d (by simp[hd']))
  rw[numOf_append,Nat.pow_succ]
  omega
structure NfI (w0:World) (b3:Nat) (t:Tok) (rb:Nat) (ob:Obj) (M:Own) (i:Nat) (wb:World) (e:Env) (ds:List Deferred) (L:Own):Prop where
 hw:wb=w0
 hds:ds=[]
 h0:e 0=.pointer (some ⟨rb,0,none⟩)
 h5:e 5=.bool false
 hL:L=oTk b3 t.k t.tx t.at_ t.nx t.ft::(rb,ob)::M
structure NbI (w0:World) (b3:Nat) (t:Tok) (rb:Nat) (ob:Obj) (M:Own) (i:Nat) (wb:World) (e:Env) (ds:List Deferred) (L:Own):Prop where
 hw:wb=w0
 hds:ds=[]
 h0:e 0=.pointer (some ⟨rb,0,none⟩)
 h3:e 3=.pointer (some ⟨b3,0,none⟩)
 h6:e 6=i64 i
 il:i≤t.tx.length
 o:∃ (b:Bool) (n:Nat),e 5=.bool b∧e 4=i64 n∧(b=true→t.k=1∧t.tx.length≤4∧(t.tx.length=1∨t.tx.head?≠some 48)∧(∀ c∈t.tx.take i,digB c=true)∧n=numOf (t.tx.take i))∧(b=false→¬ (t.k=1∧numOK t.tx=true))
 hL:L=oTk b3 t.k t.tx t.at_ t.nx t.ft::(rb,ob)::M
theorem numberR_walk (wb w:World) (rb:Nat) (s:List UInt8) (p:Nat) (ft:Int) (v:Value) (M:Own) (hs:s.length≤65536) (hp:p≤s.length) (hft:ft=-1∨0≤ft) (hrb:wb.heap.size≤rb) (hw:Sy wb (oRr rb s p ft v::M) w) :
 Calls Tryz.prog 115 #[.pointer (some ⟨rb,0,none⟩)] w (fun e w'=>∃ x L',e=.returned x∧Sy wb L' w'∧∃ (n:Nat) (p':Nat) (ft':Int),x=i64 n∧StepR s ft p (pNum s (blP s p)) (fun y=>n=y) p' ft'∧L'=oRr rb s p' ft' v::M):=by
 have hsee:∀ w',Sy wb (oRr rb s p ft v::M) w'→Calls Tryz.prog 41 #[.pointer (some ⟨rb,0,none⟩)] w' (Rets w' (Is (.agg (tokP s p).cells))):=fun w' hw'=>seeR_walk w' rb s p hs hp (At.of_own hw' (.head _) rfl)
 have hbg:p≤blP s p:=runP_ge _ _ _
 have hq:blP s p≤s.length:=runP_le hp
 have h1:((tokP s p).k=1∧(tokP s p).tx≠[]∧(tokP s p).tx.length≤s.length∧pWord s (blP s p)=.ok (tokP s p).tx (blP s (tokP s p).nx)∧p≤(tokP s p).nx∧(tokP s p).nx≤s.length)∨((tokP s p).k≠1∧pWord s (blP s p)=.no (blP s p)):=by
  rcases tok_word s p with ⟨a1,a2,a3,a4⟩|⟨a1,a2⟩
  ·have hwl:weP s (blP s p)≤s.length:=runP_le hq
   have hwg:blP s p≤weP s (blP s p):=runP_ge _ _ _
   have hlen:(tokP s p).tx.length=weP s (blP s p) - blP s p:=by rw[a3,List.length_drop,List.length_take]; omega
   refine .inl ⟨a1,fun h=>?_,by omega,?_,by omega,by omega⟩
   ·rw[h] at hlen; simp at hlen; omega
   ·unfold pWord
    rw[if_neg a2,a3,a4]
  ·refine .inr ⟨a1,?_⟩
   unfold pWord
   rw[if_pos a2]
 generalize tokP s p=t at h1 hsee
 refine enterB (args:=[.pointer (some ⟨rb,0,none⟩)]) Tryz.func115 rfl Tryz.ntmps115 (congrArg Array.toList Tryz.results115) (by kernel_rfl) (by simp) hw ?_
 refine sp ?_
 refine callV en_41 (cIs hsee ?_)
 refine sp ?_
 refine newI (fun b3 hb3 hn3=>?_)
 refine sp ?_
 refine sXa 0 rfl Siz.eq rfl rfl ?_
 refine sp ?_
 refine lOn Shp.eq mem0 rfl ?_
 refine sp ?_
 have hfs:(0:Int)≤(if ft < 0 then (blP s p:Int) else ft):=by
  split
  ·omega
  ·omega
 have hnoN:¬ (t.k=1∧numOK t.tx=true)→pNum s (blP s p)=.no (blP s p):=fun h=>by
  unfold pNum
  rcases h1 with ⟨a1,_,_,a2,_⟩|⟨_,a2⟩
  ·rw[a2,PR.and_ok,if_neg (fun h2=>h ⟨a1,h2⟩)]
  ·rw[a2,PR.and_no]
 refine gT rfl (fun hk=>?_) (fun hk=>?_)
 rotate_left
 ·have hbad:¬ (t.k=1∧numOK t.tx=true):=fun h=>hk (by omega)
  refine sp ?_
  rw[Vb]
  refine sp ?_
  refine loopT (G:=Nat) (NfI wb b3 t rb (Obj.cells #[str s,i64 p,i64 ft,v] 82 (0,0)) M) (fun _=>0) 0 (by kernel_rfl) ⟨rfl,rfl,rfl,rfl,rfl⟩ ?_
  rintro i wb e ds L ⟨rfl,rfl,h0,h5,rfl⟩
  simp (disch:=omega) only[push_cast,qE,h0,h5]
  rw[Vc]
  simp (disch:=omega) only[push_cast,qE,h0,h5,Bool.not_false]
  rw[Vc]
  simp (disch:=omega) only[push_cast,qE,h0,h5,Bool.not_false]
  refine callV en_75 (callX_weak (L':=oRr rb s p ft v::M) (fun w' hw'=>Sy.drop hw' (.cons _ (List.Sublist.refl _)) (fun b hb=>(List.mem_cons.1 hb).elim (fun h=>.inr (by rw[h]; exact hb3)) .inl)) (callX_unit (fun w' hw'=>badR_walk wb w' rb s p ft v M hs hp hrb hw') ?_))
  simp (disch:=omega) only[push_cast,qE,h0,h5]
  refine fun w' hw'=>⟨_,_,rfl,hw',0,p,if ft < 0 then (blP s p:Int) else ft,rfl,⟨Nat.le_refl _,hp,.inr ⟨hfs,fun h=>⟨blP s p,hnoN hbad,?_⟩,fun h=>?_⟩⟩,rfl⟩
  ·rw[if_pos (by omega)]
  ·rw[if_neg (by omega)]
 obtain ⟨a1,a2,a3,a4,a5,a6⟩:t.k=1∧t.tx≠[]∧t.tx.length≤s.length∧pWord s (blP s p)=.ok t.tx (blP s t.nx)∧p≤t.nx∧t.nx≤s.length:=by
  rcases h1 with h|⟨h,_⟩
  ·exact h
  ·omega
 have hpos:0 < t.tx.length:=List.length_pos_iff.2 a2
 refine sp ?_
 refine lOn Shp.eq mem0 rfl ?_
 refine sp ?_
 refine gT rfl (fun h4=>?_) (fun h4=>?_)
 rotate_left
 ·have hbad:¬ (t.k=1∧numOK t.tx=true):=fun h=>h4 (by have:=((numOK_iff _).1 h.2).1; omega)
  refine sp ?_
  rw[Vb]
  refine sp ?_
  refine loopT (G:=Nat) (NfI wb b3 t rb (Obj.cells #[str s,i64 p,i64 ft,v] 82 (0,0)) M) (fun _=>0) 0 (by kernel_rfl) ⟨rfl,rfl,rfl,rfl,rfl⟩ ?_
  rintro i wb e ds L ⟨rfl,rfl,h0,h5,rfl⟩
  simp (disch:=omega) only[push_cast,qE,h0,h5]
  rw[Vc]
  simp (disch:=omega) only[push_cast,qE,h0,h5,Bool.not_false]
  rw[Vc]
  simp (disch:=omega) only[push_cast,qE,h0,h5,Bool.not_false]
  refine callV en_75 (callX_weak (L':=oRr rb s p ft v::M) (fun w' hw'=>Sy.drop hw' (.cons _ (List.Sublist.refl _)) (fun b hb=>(List.mem_cons.1 hb).elim (fun h=>.inr (by rw[h]; exact hb3)) .inl)) (callX_unit (fun w' hw'=>badR_walk wb w' rb s p ft v M hs hp hrb hw') ?_))
  simp (disch:=omega) only[push_cast,qE,h0,h5]
  refine fun w' hw'=>⟨_,_,rfl,hw',0,p,if ft < 0 then (blP s p:Int) else ft,rfl,⟨Nat.le_refl _,hp,.inr ⟨hfs,fun h=>⟨blP s p,hnoN hbad,?_⟩,fun h=>?_⟩⟩,rfl⟩
  ·rw[if_pos (by omega)]
  ·rw[if_neg (by omega)]
 refine sp ?_
 refine lOn Shp.eq mem0 rfl ?_
 refine sp ?_
 refine gF rfl (fun hl1=>?_) (fun hl1=>?_)
 rotate_left
 ·have hg:t.k=1∧t.tx.length≤4∧(t.tx.length=1∨t.tx.head?≠some 48):=⟨a1,by omega,.inl (by omega)⟩
  refine sp ?_
  rw[Vb]
  refine sp ?_
  refine loopT (G:=Nat) (NbI wb b3 t rb (Obj.cells #[str s,i64 p,i64 ft,v] 82 (0,0)) M) (fun i=>t.tx.length - i) 0 (by kernel_rfl) ⟨rfl,rfl,rfl,rfl,rfl,Nat.zero_le _,⟨true,0,rfl,rfl,fun _=>⟨hg.1,hg.2.1,hg.2.2,by simp,rfl⟩,fun h=>by cases h⟩,rfl⟩ ?_
  rintro i wb e ds L ⟨rfl,rfl,h0,h3,h6,hil,⟨b,n,h5,h4,hy,hn⟩,rfl⟩
  simp (disch:=omega) only[push_cast,qE,h0,h3,h4,h5,h6]
  cases b
  ·have hbad:=hn rfl
   refine gbT rfl (fun h=>by cases h) (fun _=>?_)
   simp (disch:=omega) only[push_cast,qE,h0,h3,h4,h5,h6]
   rw[Vc]
   simp (disch:=omega) only[push_cast,qE,h0,h3,h4,h5,h6,Bool.not_false]
   rw[Vc]
   simp (disch:=omega) only[push_cast,qE,h0,h3,h4,h5,h6,Bool.not_false]
   refine callV en_75 (callX_weak (L':=oRr rb s p ft v::M) (fun w' hw'=>Sy.drop hw' (.cons _ (List.Sublist.refl _)) (fun b hb=>(List.mem_cons.1 hb).elim (fun h=>.inr (by rw[h]; exact hb3)) .inl)) (callX_unit (fun w' hw'=>badR_walk wb w' rb s p ft v M hs hp hrb hw') ?_))
   simp (disch:=omega) only[push_cast,qE,h0,h3,h4,h5,h6]
   refine fun w' hw'=>⟨_,_,rfl,hw',0,p,if ft < 0 then (blP s p:Int) else ft,rfl,⟨Nat.le_refl _,hp,.inr ⟨hfs,fun h=>⟨blP s p,hnoN hbad,?_⟩,fun h=>?_⟩⟩,rfl⟩
   ·rw[if_pos (by omega)]
   ·rw[if_neg (by omega)]
  ·refine gbT rfl (fun _=>?_) (fun h=>by cases h)
   simp (disch:=omega) only[push_cast,qE,h0,h3,h4,h5,h6]
   refine lOn Shp.eq mem0 rfl ?_
   simp (disch:=omega) only[push_cast,qE,h0,h3,h4,h5,h6]
   rw[Vc]
   simp (disch:=omega) only[push_cast,qE,h0,h3,h4,h5,h6]
   refine cdD (fun hlt=>?_) (fun hge=>?_)
   ·have hlt':i < t.tx.length:=by omega
    have hat:=getD_at (s:=t.tx) (i:=i) hlt'
    have htk:t.tx.take (i+1)=t.tx.take i++[t.tx.getD i 0]:=by
     rw[List.take_add_one,hat]
     rfl
    obtain ⟨y1,y2,y3,y4,y5⟩:=hy rfl
    have hn4:n < 10000:=by
     have e1:=numOf_lt _ _ rfl y4
     have e2:(t.tx.take i).length≤4:=by rw[List.length_take]; omega
     have e3:10 ^ (t.tx.take i).length≤10 ^ 4:=Nat.pow_le_pow_right (by omega) e2
     omega
    have hstep:∀ b':Bool,(b'=true→digB (t.tx.getD i 0)=true)→(b'=false→¬ digB (t.tx.getD i 0)=true)→True:=fun _ _ _=>trivial
    simp (disch:=omega) only[push_cast,qE,h0,h3,h4,h5,h6]
    rw[Vb]
    simp (disch:=omega) only[push_cast,qE,h0,h3,h4,h5,h6]
    refine lOn Shp.eq mem0 rfl ?_
    simp (disch:=omega) only[push_cast,qE,h0,h3,h4,h5,h6,Int.toNat_natCast]
    refine gF rfl (fun h48=>?_) (fun h48=>?_)
    rotate_left
    ·simp (disch:=omega) only[push_cast,qE,h0,h3,h4,h5,h6]
     rw[Vc]
     simp (disch:=omega) only[push_cast,qE,h0,h3,h4,h5,h6]
     exact ⟨i+1,⟨rfl,rfl,h0,h3,uu,by omega,⟨false,n,uu,us h4,fun h=>(by cases h),fun _ h=>by
      have:=(digB_iff _).1 (((numOK_iff _).1 h.2).2.1 _ (List.mem_of_getElem? hat))
      omega⟩,rfl⟩,by omega⟩
    simp (disch:=omega) only[push_cast,qE,h0,h3,h4,h5,h6]
    refine lOn Shp.eq mem0 rfl ?_
    simp (disch:=omega) only[push_cast,qE,h0,h3,h4,h5,h6,Int.toNat_natCast]
    rw[Vc]
    simp (disch:=omega) only[push_cast,qE,h0,h3,h4,h5,h6]
    refine cdD (fun h57=>?_) (fun h57=>?_)
    ·simp (disch:=omega) only[push_cast,qE,h0,h3,h4,h5,h6]
     exact ⟨i+1,⟨rfl,rfl,h0,h3,uu,by omega,⟨false,n,uu,us h4,fun h=>(by cases h),fun _ h=>by
      have:=(digB_iff _).1 (((numOK_iff _).1 h.2).2.1 _ (List.mem_of_getElem? hat))
      omega⟩,rfl⟩,by omega⟩
    simp (disch:=omega) only[push_cast,qE,h0,h3,h4,h5,h6]
    refine lOn Shp.eq mem0 rfl ?_
    simp (disch:=omega) only[push_cast,qE,h0,h3,h4,h5,h6,Int.toNat_natCast]
    have hdg:digB (t.tx.getD i 0)=true:=(digB_iff _).2 ⟨by omega,by omega⟩
    refine ⟨i+1,⟨rfl,rfl,h0,h3,uu,by omega,⟨true,10 * n+((t.tx.getD i 0).toNat - 48),us h5,?_,fun _=>⟨y1,y2,y3,fun c hc=>?_,?_⟩,fun h=>(by cases h)⟩,rfl⟩,by omega⟩
    ·simp only[upd]
     show i64 _=i64 _
     congr 1
     omega
    ·rw[htk] at hc
     rcases List.mem_append.1 hc with hc|hc
     ·exact y4 c hc
     ·rw[List.mem_singleton.1 hc]; exact hdg
    ·rw[htk,numOf_append,y5]
   ·obtain rfl:i=t.tx.length:=by omega
    obtain ⟨y1,y2,y3,y4,y5⟩:=hy rfl
    rw[List.take_length] at y4 y5
    have hnOK:numOK t.tx=true:=(numOK_iff _).2 ⟨y2,y4,y3⟩
    simp (disch:=omega) only[push_cast,qE,h0,h3,h4,h5,h6,Bool.not_true]
    rw[Vc]
    simp (disch:=omega) only[push_cast,qE,h0,h3,h4,h5,h6,Bool.not_true]
    refine lOn Shp.eq mem1 rfl ?_
    simp (disch:=omega) only[push_cast,qE,h0,h3,h4,h5,h6]
    rw[Vc]
    simp (disch:=omega) only[push_cast,qE,h0,h3,h4,h5,h6]
    refine cdD (fun hneg=>?_) (fun hneg=>?_)
    ·simp (disch:=omega) only[push_cast,qE,h0,h3,h4,h5,h6]
     refine lOn Shp.eq mem0 rfl ?_
     simp (disch:=omega) only[push_cast,qE,h0,h3,h4,h5,h6]
     refine sXa 1 rfl Siz.eq rfl rfl ?_
     simp (disch:=omega) only[push_cast,qE,h0,h3,h4,h5,h6]
     have hft1:ft=-1:=hft.resolve_right (by omega)
     refine fun w' hw'=>⟨_,_,rfl,(Sy.drop hw' (.cons _ (List.Sublist.refl _)) (fun b hb=>(List.mem_cons.1 hb).elim (fun h=>.inr (by rw[h]; exact hb3)) .inl)),n,t.nx,ft,rfl,⟨by omega,by omega,.inl ⟨hft1,hft1,n,?_,rfl⟩⟩,rfl⟩
     unfold pNum
     rw[a4,PR.and_ok,if_pos hnOK,y5]
    ·simp (disch:=omega) only[push_cast,qE,h0,h3,h4,h5,h6]
     exact fun w' hw'=>⟨_,_,rfl,(Sy.drop hw' (.cons _ (List.Sublist.refl _)) (fun b hb=>(List.mem_cons.1 hb).elim (fun h=>.inr (by rw[h]; exact hb3)) .inl)),n,p,ft,rfl,⟨Nat.le_refl _,hp,.inr ⟨by omega,fun h=>by omega,fun _=>rfl⟩⟩,rfl⟩
 refine sp ?_
 refine lOn Shp.eq mem0 rfl ?_
 refine sp ?_
 have hhd:t.tx.head?=some (t.tx.getD 0 0):=by
  cases ht:t.tx with
  | nil=>exact absurd ht a2
  | cons c l=>rfl
 have q48:(((t.tx.getD 0 0).toNat:Int)=48)=(t.tx.getD 0 0=48):=u8_eq (by decide)
 by_cases hh:((t.tx.getD 0 0).toNat:Int)=48
 ·have hbad:¬ (t.k=1∧numOK t.tx=true):=fun h=>by
   rcases ((numOK_iff _).1 h.2).2.2 with h2|h2
   ·omega
   ·rw[hhd] at h2
    rw[q48] at hh
    exact h2 (by rw[hh])
  rw[Vb]
  refine sp ?_
  refine loopT (G:=Nat) (NfI wb b3 t rb (Obj.cells #[str s,i64 p,i64 ft,v] 82 (0,0)) M) (fun _=>0) 0 (by kernel_rfl) ⟨rfl,rfl,rfl,congrArg Value.bool (decide_eq_false (fun h=>h hh)),rfl⟩ ?_
  rintro i wb e ds L ⟨rfl,rfl,h0,h5,rfl⟩
  simp (disch:=omega) only[push_cast,qE,h0,h5]
  rw[Vc]
  simp (disch:=omega) only[push_cast,qE,h0,h5,Bool.not_false]
  rw[Vc]
  simp (disch:=omega) only[push_cast,qE,h0,h5,Bool.not_false]
  refine callV en_75 (callX_weak (L':=oRr rb s p ft v::M) (fun w' hw'=>Sy.drop hw' (.cons _ (List.Sublist.refl _)) (fun b hb=>(List.mem_cons.1 hb).elim (fun h=>.inr (by rw[h]; exact hb3)) .inl)) (callX_unit (fun w' hw'=>badR_walk wb w' rb s p ft v M hs hp hrb hw') ?_))
  simp (disch:=omega) only[push_cast,qE,h0,h5]
  refine fun w' hw'=>⟨_,_,rfl,hw',0,p,if ft < 0 then (blP s p:Int) else ft,rfl,⟨Nat.le_refl _,hp,.inr ⟨hfs,fun h=>⟨blP s p,hnoN hbad,?_⟩,fun h=>?_⟩⟩,rfl⟩
  ·rw[if_pos (by omega)]
  ·rw[if_neg (by omega)]
 ·have hg:t.k=1∧t.tx.length≤4∧(t.tx.length=1∨t.tx.head?≠some 48):=⟨a1,by omega,.inr (fun h=>by
   rw[hhd] at h
   rw[q48] at hh
   exact hh (Option.some.inj h))⟩
  rw[Vb]
  refine sp ?_
  refine loopT (G:=Nat) (NbI wb b3 t rb (Obj.cells #[str s,i64 p,i64 ft,v] 82 (0,0)) M) (fun i=>t.tx.length - i) 0 (by kernel_rfl) ⟨rfl,rfl,rfl,rfl,rfl,Nat.zero_le _,⟨true,0,congrArg Value.bool (decide_eq_true hh),rfl,fun _=>⟨hg.1,hg.2.1,hg.2.2,by simp,rfl⟩,fun h=>by cases h⟩,rfl⟩ ?_
  rintro i wb e ds L ⟨rfl,rfl,h0,h3,h6,hil,⟨b,n,h5,h4,hy,hn⟩,rfl⟩
  simp (disch:=omega) only[push_cast,qE,h0,h3,h4,h5,h6]
  cases b
  ·have hbad:=hn rfl
   refine gbT rfl (fun h=>by cases h) (fun _=>?_)
   simp (disch:=omega) only[push_cast,qE,h0,h3,h4,h5,h6]
   rw[Vc]
   simp (disch:=omega) only[push_cast,qE,h0,h3,h4,h5,h6,Bool.not_false]
   rw[Vc]
   simp (disch:=omega) only[push_cast,qE,h0,h3,h4,h5,h6,Bool.not_false]
   refine callV en_75 (callX_weak (L':=oRr rb s p ft v::M) (fun w' hw'=>Sy.drop hw' (.cons _ (List.Sublist.refl _)) (fun b hb=>(List.mem_cons.1 hb).elim (fun h=>.inr (by rw[h]; exact hb3)) .inl)) (callX_unit (fun w' hw'=>badR_walk wb w' rb s p ft v M hs hp hrb hw') ?_))
   simp (disch:=omega) only[push_cast,qE,h0,h3,h4,h5,h6]
   refine fun w' hw'=>⟨_,_,rfl,hw',0,p,if ft < 0 then (blP s p:Int) else ft,rfl,⟨Nat.le_refl _,hp,.inr ⟨hfs,fun h=>⟨blP s p,hnoN hbad,?_⟩,fun h=>?_⟩⟩,rfl⟩
   ·rw[if_pos (by omega)]
   ·rw[if_neg (by omega)]
  ·refine gbT rfl (fun _=>?_) (fun h=>by cases h)
   simp (disch:=omega) only[push_cast,qE,h0,h3,h4,h5,h6]
   refine lOn Shp.eq mem0 rfl ?_
   simp (disch:=omega) only[push_cast,qE,h0,h3,h4,h5,h6]
   rw[Vc]
   simp (disch:=omega) only[push_cast,qE,h0,h3,h4,h5,h6]
   refine cdD (fun hlt=>?_) (fun hge=>?_)
   ·have hlt':i < t.tx.length:=by omega
    have hat:=getD_at (s:=t.tx) (i:=i) hlt'
    have htk:t.tx.take (i+1)=t.tx.take i++[t.tx.getD i 0]:=by
     rw[List.take_add_one,hat]
     rfl
    obtain ⟨y1,y2,y3,y4,y5⟩:=hy rfl
    have hn4:n < 10000:=by
     have e1:=numOf_lt _ _ rfl y4
     have e2:(t.tx.take i).length≤4:=by rw[List.length_take]; omega
     have e3:10 ^ (t.tx.take i).length≤10 ^ 4:=Nat.pow_le_pow_right (by omega) e2
     omega
    have hstep:∀ b':Bool,(b'=true→digB (t.tx.getD i 0)=true)→(b'=false→¬ digB (t.tx.getD i 0)=true)→True:=fun _ _ _=>trivial
    simp (disch:=omega) only[push_cast,qE,h0,h3,h4,h5,h6]
    rw[Vb]
    simp (disch:=omega) only[push_cast,qE,h0,h3,h4,h5,h6]
    refine lOn Shp.eq mem0 rfl ?_
    simp (disch:=omega) only[push_cast,qE,h0,h3,h4,h5,h6,Int.toNat_natCast]
    refine gF rfl (fun h48=>?_) (fun h48=>?_)
    rotate_left
    ·simp (disch:=omega) only[push_cast,qE,h0,h3,h4,h5,h6]
     rw[Vc]
     simp (disch:=omega) only[push_cast,qE,h0,h3,h4,h5,h6]
     exact ⟨i+1,⟨rfl,rfl,h0,h3,uu,by omega,⟨false,n,uu,us h4,fun h=>(by cases h),fun _ h=>by
      have:=(digB_iff _).1 (((numOK_iff _).1 h.2).2.1 _ (List.mem_of_getElem? hat))
      omega⟩,rfl⟩,by omega⟩
    simp (disch:=omega) only[push_cast,qE,h0,h3,h4,h5,h6]
    refine lOn Shp.eq mem0 rfl ?_
    simp (disch:=omega) only[push_cast,qE,h0,h3,h4,h5,h6,Int.toNat_natCast]
    rw[Vc]
    simp (disch:=omega) only[push_cast,qE,h0,h3,h4,h5,h6]
    refine cdD (fun h57=>?_) (fun h57=>?_)
    ·simp (disch:=omega) only[push_cast,qE,h0,h3,h4,h5,h6]
     exact ⟨i+1,⟨rfl,rfl,h0,h3,uu,by omega,⟨false,n,uu,us h4,fun h=>(by cases h),fun _ h=>by
      have:=(digB_iff _).1 (((numOK_iff _).1 h.2).2.1 _ (List.mem_of_getElem? hat))
      omega⟩,rfl⟩,by omega⟩
    simp (disch:=omega) only[push_cast,qE,h0,h3,h4,h5,h6]
    refine lOn Shp.eq mem0 rfl ?_
    simp (disch:=omega) only[push_cast,qE,h0,h3,h4,h5,h6,Int.toNat_natCast]
    have hdg:digB (t.tx.getD i 0)=true:=(digB_iff _).2 ⟨by omega,by omega⟩
    refine ⟨i+1,⟨rfl,rfl,h0,h3,uu,by omega,⟨true,10 * n+((t.tx.getD i 0).toNat - 48),us h5,?_,fun _=>⟨y1,y2,y3,fun c hc=>?_,?_⟩,fun h=>(by cases h)⟩,rfl⟩,by omega⟩
    ·simp only[upd]
     show i64 _=i64 _
     congr 1
     omega
    ·rw[htk] at hc
     rcases List.mem_append.1 hc with hc|hc
     ·exact y4 c hc
     ·rw[List.mem_singleton.1 hc]; exact hdg
    ·rw[htk,numOf_append,y5]
   ·obtain rfl:i=t.tx.length:=by omega
    obtain ⟨y1,y2,y3,y4,y5⟩:=hy rfl
    rw[List.take_length] at y4 y5
    have hnOK:numOK t.tx=true:=(numOK_iff _).2 ⟨y2,y4,y3⟩
    simp (disch:=omega) only[push_cast,qE,h0,h3,h4,h5,h6,Bool.not_true]
    rw[Vc]
    simp (disch:=omega) only[push_cast,qE,h0,h3,h4,h5,h6,Bool.not_true]
    refine lOn Shp.eq mem1 rfl ?_
    simp (disch:=omega) only[push_cast,qE,h0,h3,h4,h5,h6]
    rw[Vc]
    simp (disch:=omega) only[push_cast,qE,h0,h3,h4,h5,h6]
    refine cdD (fun hneg=>?_) (fun hneg=>?_)
    ·simp (disch:=omega) only[push_cast,qE,h0,h3,h4,h5,h6]
     refine lOn Shp.eq mem0 rfl ?_
     simp (disch:=omega) only[push_cast,qE,h0,h3,h4,h5,h6]
     refine sXa 1 rfl Siz.eq rfl rfl ?_
     simp (disch:=omega) only[push_cast,qE,h0,h3,h4,h5,h6]
     have hft1:ft=-1:=hft.resolve_right (by omega)
     refine fun w' hw'=>⟨_,_,rfl,(Sy.drop hw' (.cons _ (List.Sublist.refl _)) (fun b hb=>(List.mem_cons.1 hb).elim (fun h=>.inr (by rw[h]; exact hb3)) .inl)),n,t.nx,ft,rfl,⟨by omega,by omega,.inl ⟨hft1,hft1,n,?_,rfl⟩⟩,rfl⟩
     unfold pNum
     rw[a4,PR.and_ok,if_pos hnOK,y5]
    ·simp (disch:=omega) only[push_cast,qE,h0,h3,h4,h5,h6]
     exact fun w' hw'=>⟨_,_,rfl,(Sy.drop hw' (.cons _ (List.Sublist.refl _)) (fun b hb=>(List.mem_cons.1 hb).elim (fun h=>.inr (by rw[h]; exact hb3)) .inl)),n,p,ft,rfl,⟨Nat.le_refl _,hp,.inr ⟨by omega,fun h=>by omega,fun _=>rfl⟩⟩,rfl⟩
theorem indexR_walk (wb w:World) (rb:Nat) (s:List UInt8) (p:Nat) (v:Value) (M:Own) (hs:s.length≤65536) (hp:p≤s.length) (hrb:wb.heap.size≤rb) (hw:Sy wb (oRr rb s p (-1) v::M) w) :
 Calls Tryz.prog 116 #[.pointer (some ⟨rb,0,none⟩)] w (fun e w'=>∃ x L',e=.returned x∧Sy wb L' w'∧∃ (n:Nat) (p':Nat) (ft':Int),x=i64 n∧StepR s (-1) p (pKind s saysIdx (blP s p)) (fun y=>n=y) p' ft'∧L'=oRr rb s p' ft' v::M):=by
 have hsee:∀ w',Sy wb (oRr rb s p (-1) v::M) w'→Calls Tryz.prog 41 #[.pointer (some ⟨rb,0,none⟩)] w' (Rets w' (Is (.agg (tokP s p).cells))):=fun w' hw'=>seeR_walk w' rb s p hs hp (At.of_own hw' (.head _) rfl)
 have hbg:p≤blP s p:=runP_ge _ _ _
 have hq:blP s p≤s.length:=runP_le hp
 have h1:((tokP s p).k=1∧pWord s (blP s p)=.ok (tokP s p).tx (blP s (tokP s p).nx)∧p≤(tokP s p).nx∧(tokP s p).nx≤s.length)∨((tokP s p).k≠1∧pWord s (blP s p)=.no (blP s p)):=by
  rcases tok_word s p with ⟨a1,a2,a3,a4⟩|⟨a1,a2⟩
  ·have hwl:weP s (blP s p)≤s.length:=runP_le hq
   have hwg:blP s p≤weP s (blP s p):=runP_ge _ _ _
   refine .inl ⟨a1,?_,by omega,by omega⟩
   unfold pWord
   rw[if_neg a2,a3,a4]
  ·refine .inr ⟨a1,?_⟩
   unfold pWord
   rw[if_pos a2]
 generalize tokP s p=t at h1 hsee
 refine enterB (args:=[.pointer (some ⟨rb,0,none⟩)]) Tryz.func116 rfl Tryz.ntmps116 (congrArg Array.toList Tryz.results116) (by kernel_rfl) (by simp) hw ?_
 refine sp ?_
 refine callV en_41 (cIs hsee ?_)
 refine sp ?_
 refine newI (fun b3 hb3 hn3=>?_)
 refine sp ?_
 refine sXa 0 rfl Siz.eq rfl rfl ?_
 refine sp ?_
 refine lOn Shp.eq mem0 rfl ?_
 refine sp ?_
 rw[Vc]
 refine sp ?_
 refine cdD (fun hk=>?_) (fun hk=>?_)
 rotate_left
 ·have hno:pKind s saysIdx (blP s p)=.no (blP s p):=by
   unfold pKind
   rcases h1 with ⟨h,_⟩|⟨_,h⟩
   ·omega
   ·rw[h,PR.and_no]
  refine sp ?_
  refine gF rfl (fun h=>?_) (fun _=>?_)
  ·exfalso; omega
  refine sp ?_
  rw[Vc]
  refine sp ?_
  refine callV en_75 (callX_weak (L':=oRr rb s p (-1) v::M) (fun w' hw'=>(Sy.drop hw' (.cons _ (List.Sublist.refl _)) (fun b hb=>(List.mem_cons.1 hb).elim (fun h=>.inr (by rw[h]; exact hb3)) .inl))) (callX_unit (fun w' hw'=>badR_walk wb w' rb s p (-1) v M hs hp hrb hw') ?_))
  refine sp ?_
  exact fun w' hw'=>⟨_,_,rfl,hw',0,p,blP s p,rfl,⟨Nat.le_refl _,hp,.inr ⟨by omega,fun _=>⟨_,hno,rfl⟩,fun h=>by omega⟩⟩,rfl⟩
 obtain ⟨a4,a5,a6⟩:pWord s (blP s p)=.ok t.tx (blP s t.nx)∧p≤t.nx∧t.nx≤s.length:=by
  rcases h1 with ⟨_,h⟩|⟨h,_⟩
  ·exact h
  ·omega
 have hkk:pKind s saysIdx (blP s p)=if 3≤kP t.tx∧kP t.tx≤10 then .ok (kP t.tx) (blP s t.nx) else .no (blP s p):=by
  unfold pKind
  rw[a4,PR.and_ok]
  unfold kP
  by_cases h0:kindW t.tx=0
  ·rw[h0]; rfl
  ·obtain ⟨b1,b2,b3⟩:=kindW_word h0
   have hs3:=saysIdx_iff _ b2
   by_cases h13:kindW t.tx≤13
   ·rw[if_pos h13]
    by_cases h3:3≤kindW t.tx∧kindW t.tx≤10
    ·rw[if_pos ⟨h0,hs3.2 h3⟩,if_pos h3]
    ·rw[if_neg (fun h=>h3 (hs3.1 h.2)),if_neg h3]
   ·rw[if_neg h13,if_neg (fun h=>by have:=hs3.1 h.2; omega),if_neg (by omega)]
 refine sp ?_
 refine lOn Shp.eq mem0 rfl ?_
 refine sp ?_
 refine callV en_80 (cIs (fun w' _=>kindOf_walk w' t.tx) ?_)
 refine sp ?_
 generalize kP t.tx=k at hkk
 refine gF rfl (fun h3=>?_) (fun h3=>?_)
 rotate_left
 ·have hno:pKind s saysIdx (blP s p)=.no (blP s p):=by rw[hkk,if_neg (by omega)]
  refine sp ?_
  rw[Vc]
  refine sp ?_
  refine callV en_75 (callX_weak (L':=oRr rb s p (-1) v::M) (fun w' hw'=>(Sy.drop hw' (.cons _ (List.Sublist.refl _)) (fun b hb=>(List.mem_cons.1 hb).elim (fun h=>.inr (by rw[h]; exact hb3)) .inl))) (callX_unit (fun w' hw'=>badR_walk wb w' rb s p (-1) v M hs hp hrb hw') ?_))
  refine sp ?_
  exact fun w' hw'=>⟨_,_,rfl,hw',0,p,blP s p,rfl,⟨Nat.le_refl _,hp,.inr ⟨by omega,fun _=>⟨_,hno,rfl⟩,fun h=>by omega⟩⟩,rfl⟩
 refine sp ?_
 rw[Vc]
 refine sp ?_
 refine cdD (fun h10=>?_) (fun h10=>?_)
 ·have hno:pKind s saysIdx (blP s p)=.no (blP s p):=by rw[hkk,if_neg (by omega)]
  refine sp ?_
  refine callV en_75 (callX_weak (L':=oRr rb s p (-1) v::M) (fun w' hw'=>(Sy.drop hw' (.cons _ (List.Sublist.refl _)) (fun b hb=>(List.mem_cons.1 hb).elim (fun h=>.inr (by rw[h]; exact hb3)) .inl))) (callX_unit (fun w' hw'=>badR_walk wb w' rb s p (-1) v M hs hp hrb hw') ?_))
  refine sp ?_
  exact fun w' hw'=>⟨_,_,rfl,hw',0,p,blP s p,rfl,⟨Nat.le_refl _,hp,.inr ⟨by omega,fun _=>⟨_,hno,rfl⟩,fun h=>by omega⟩⟩,rfl⟩
 ·refine sp ?_
  refine lOn Shp.eq mem0 rfl ?_
  refine sp ?_
  refine sXa 1 rfl Siz.eq rfl rfl ?_
  refine sp ?_
  exact fun w' hw'=>⟨_,_,rfl,(Sy.drop hw' (.cons _ (List.Sublist.refl _)) (fun b hb=>(List.mem_cons.1 hb).elim (fun h=>.inr (by rw[h]; exact hb3)) .inl)),k,t.nx,-1,rfl,⟨a5,a6,.inl ⟨rfl,rfl,k,by rw[hkk,if_pos (by omega)],rfl⟩⟩,rfl⟩
end Go.Proofs.YtdmdgkpjjpijdaaGreatDoor
