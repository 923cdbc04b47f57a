/- YtdmdgkpjjpijdaaGreatDoor: walks, part 187: the reference's reader: signs, names, quoted texts, the end. -/
import Derived.Test.YtdmdgkpjjpijdaaGreatDoorW166
namespace Go.Proofs.YtdmdgkpjjpijdaaGreatDoor
open Go Go.K
open Nat renaming reduceEqDiff → qE
open List renaming getElem?_eq_getElem → qH
set_option maxRecDepth 100000
set_option linter.unusedVariables false
set_option linter.unusedSimpArgs false
set_option maxHeartbeats 8000000
theorem quoP_at (s:List UInt8) (q:Nat):(quoP s q).at_=q:=by
 unfold quoP
 split<;>rfl
theorem quoP_k (s:List UInt8) (q:Nat):(quoP s q).k=3:=by
 unfold quoP
 split<;>rfl
theorem tok_at (s:List UInt8) (p:Nat):(tokP s p).at_=blP s p:=by
 unfold tokP tokQ
 split
 ·rfl
 split
 ·rfl
 split
 ·rfl
 split
 ·exact quoP_at _ _
 ·rfl
theorem sgn_let {c:UInt8} (h:sgnB c=true):letB c=false:=by
 unfold sgnB at h
 unfold letB
 have h1:=of_decide_eq_true h
 refine decide_eq_false ?_
 rcases h1 with rfl|rfl|rfl|rfl|rfl<;>decide
theorem tok_sign {s:List UInt8} {p:Nat} {c:UInt8} (hc:sgnB c=true):((tokP s p).k=2∧(tokP s p).tx=[c])↔s[blP s p]?=some c:=by
 unfold tokP tokQ
 generalize blP s p=q
 cases hq:s[q]? with
 | none=>simp
 | some d =>
  simp only
  split
  ·rename_i hl
   refine ⟨fun h=>(by cases h.1),fun h=>?_⟩
   cases h
   rw[sgn_let hc] at hl
   cases hl
  split
  ·simp
  rename_i hs
  have hne:¬ (some d=some c):=fun h=>by cases h; exact hs hc
  split
  ·exact ⟨fun h=>(by rw[quoP_k] at h; cases h.1),fun h=>absurd h hne⟩
  ·exact ⟨fun h=>(by cases h.1),fun h=>absurd h hne⟩
theorem tok_next {s:List UInt8} {p:Nat} (h:(tokP s p).k=2):(tokP s p).nx=blP s p+1:=by
 unfold tokP tokQ at h ⊢
 generalize blP s p=q at h ⊢
 cases hq:s[q]? with
 | none=>rw[hq] at h; cases h
 | some d =>
  rw[hq] at h
  simp only at h ⊢
  split
  ·rename_i hl; rw[if_pos hl] at h; cases h
  rename_i hl
  rw[if_neg hl] at h
  split
  ·rfl
  rename_i hs
  rw[if_neg hs] at h
  split
  ·rename_i h34; rw[if_pos h34,quoP_k] at h; omega
  ·rename_i h34; rw[if_neg h34] at h<;>cases h
theorem tok_word (s:List UInt8) (p:Nat):((tokP s p).k=1∧weP s (blP s p)≠blP s p∧(tokP s p).tx=(s.take (weP s (blP s p))).drop (blP s p)∧(tokP s p).nx=weP s (blP s p))∨((tokP s p).k≠1∧weP s (blP s p)=blP s p):=by
 unfold tokP tokQ
 generalize blP s p=q
 cases hq:s[q]? with
 | none =>
  refine .inr ⟨by simp,runP_end ?_⟩
  rcases Nat.lt_or_ge q s.length with h|h
  ·rw[qH h] at hq; cases hq
  ·exact h
 | some d =>
  simp only
  split
  ·rename_i hl
   refine .inl ⟨rfl,?_,rfl,rfl⟩
   have:=runP_ge letB s (q+1)
   show runP letB s q≠q
   rw[runP_step hq hl]
   omega
  rename_i hl
  have hw:weP s q=q:=runP_stop hq (un hl)
  split
  ·exact .inr ⟨by simp,hw⟩
  split
  ·exact .inr ⟨by rw[quoP_k]; decide,hw⟩
  ·exact .inr ⟨by simp,hw⟩
def StepR {α:Type} (s:List UInt8) (ft:Int) (p:Nat) (r:PR α) (ok:α→Prop) (p':Nat) (ft':Int):Prop :=
 p≤p'∧p'≤s.length∧((ft=-1∧ft'=-1∧∃ x,r=.ok x (blP s p')∧ok x)∨(0≤ft'∧(ft=-1→∃ q:Nat,r=.no q∧ft'=q)∧(0≤ft→ft'=ft)))
theorem signR_walk (wb w:World) (rb:Nat) (s:List UInt8) (p:Nat) (ft:Int) (v:Value) (M:Own) (c:UInt8) (hc:sgnB c=true) (hs:s.length≤65536) (hp:p≤s.length) (hft:ft=-1∨0≤ft) (hrb:wb.heap.size≤rb) (hw:Sy wb (oRr rb s p ft v::M) w) :
 Calls Tryz.prog 43 #[.pointer (some ⟨rb,0,none⟩),str [c]] w (fun e w'=>(e=.returned (.bool true)∧∃ L',(ft=-1∧s[blP s p]?=some c∧L'=oRr rb s ((blP s p+1:Nat):Int) ft v::M)∧Sy wb L' w')∨(e=.returned (.bool false)∧∃ L',(¬ (ft=-1∧s[blP s p]?=some c)∧L'=oRr rb s p ft v::M)∧Sy wb L' w')):=by
 have h2:=tok_sign (s:=s) (p:=p) hc
 have h3:=@tok_next s p
 have hsee:∀ w',Sy wb (oRr rb s p ft v::M) w'→Calls Tryz.prog 41 #[.pointer (some ⟨rb,0,none⟩)] w' (Rets w' (Is (.agg (tokP s p).cells))):=fun w' hw'=>seeR_walk w' rb s p hs hp (At.of_own hw' (.head _) rfl)
 generalize tokP s p=t at h2 h3 hsee
 refine enterB (args:=[.pointer (some ⟨rb,0,none⟩),str [c]]) Tryz.func43 rfl Tryz.ntmps43 (congrArg Array.toList Tryz.results43) (by kernel_rfl) (by simp) hw ?_
 refine sp ?_
 refine callV en_41 (cIs hsee ?_)
 refine sp ?_
 refine newI (fun b5 hb5 hn5=>?_)
 refine sp ?_
 refine sXa 0 rfl Siz.eq rfl rfl ?_
 refine sp ?_
 refine lOn Shp.eq mem1 rfl ?_
 refine sp ?_
 refine gT rfl (fun hneg=>?_) (fun hneg=>?_)
 rotate_left
 ·refine sp ?_
  rw[Vc]
  refine sp ?_
  exact fun w' hw'=>.inr ⟨_,⟨fun h=>by omega,rfl⟩,Sy.drop hw' (.cons _ (List.Sublist.refl _)) (fun b hb=>by
   rcases List.mem_cons.1 hb with rfl|hb
   ·exact .inr hb5
   ·exact .inl hb)⟩
 have hft1:ft=-1:=by omega
 refine sp ?_
 refine lOn Shp.eq mem0 rfl ?_
 refine sp ?_
 refine gT rfl (fun hk=>?_) (fun hk=>?_)
 rotate_left
 ·refine sp ?_
  rw[Vc]
  refine sp ?_
  exact fun w' hw'=>.inr ⟨_,⟨fun h=>hk (by have:=(h2.2 h.2).1; omega),rfl⟩,Sy.drop hw' (.cons _ (List.Sublist.refl _)) (fun b hb=>by
   rcases List.mem_cons.1 hb with rfl|hb
   ·exact .inr hb5
   ·exact .inl hb)⟩
 refine sp ?_
 refine lOn Shp.eq mem0 rfl ?_
 refine sp ?_
 rw[Vc]
 refine sp ?_
 refine cdD (fun hx=>?_) (fun hx=>?_)
 ·have hsc:=h2.1 ⟨by omega,hx⟩
  have hnx:=h3 (by omega)
  refine sp ?_
  refine lOn Shp.eq mem0 rfl ?_
  refine sp ?_
  refine sXa 1 rfl Siz.eq rfl rfl ?_
  refine sp ?_
  rw[hnx]
  exact fun w' hw'=>.inl ⟨_,⟨hft1,hsc,rfl⟩,Sy.drop hw' (.cons _ (List.Sublist.refl _)) (fun b hb=>by
   rcases List.mem_cons.1 hb with rfl|hb
   ·exact .inr hb5
   ·exact .inl hb)⟩
 ·refine sp ?_
  exact fun w' hw'=>.inr ⟨_,⟨fun h=>hx (h2.2 h.2).2,rfl⟩,Sy.drop hw' (.cons _ (List.Sublist.refl _)) (fun b hb=>by
   rcases List.mem_cons.1 hb with rfl|hb
   ·exact .inr hb5
   ·exact .inl hb)⟩
theorem badR_walk (wb w:World) (rb:Nat) (s:List UInt8) (p:Nat) (ft:Int) (v:Value) (M:Own) (hs:s.length≤65536) (hp:p≤s.length) (hrb:wb.heap.size≤rb) (hw:Sy wb (oRr rb s p ft v::M) w) :
 Calls Tryz.prog 75 #[.pointer (some ⟨rb,0,none⟩)] w (fun e w'=>e=.returned (.tuple #[])∧Sy wb (oRr rb s p (if ft < 0 then (blP s p:Int) else ft) v::M) w'):=by
 have hsee:∀ w',Sy wb (oRr rb s p ft v::M) w'→Calls Tryz.prog 41 #[.pointer (some ⟨rb,0,none⟩)] w' (Rets w' (Is (.agg (tokP s p).cells))):=fun w' hw'=>seeR_walk w' rb s p hs hp (At.of_own hw' (.head _) rfl)
 have h1:=tok_at s p
 generalize tokP s p=t at h1 hsee
 refine enterB (args:=[.pointer (some ⟨rb,0,none⟩)]) Tryz.func75 rfl Tryz.ntmps75 (congrArg Array.toList Tryz.results75) (by kernel_rfl) (by simp) hw ?_
 refine sp ?_
 refine lOn Shp.eq mem0 rfl ?_
 refine sp ?_
 rw[Vc]
 refine sp ?_
 refine cdD (fun hneg=>?_) (fun hneg=>?_)
 ·refine sp ?_
  refine callV en_41 (cIs hsee ?_)
  refine sp ?_
  refine sXa 0 rfl Siz.eq rfl rfl ?_
  refine sp ?_
  rw[if_pos hneg,← h1]
  exact fun w' hw'=>hw'
 ·refine sp ?_
  rw[if_neg hneg]
  exact fun w' hw'=>hw'
theorem callX_unit {P:Program} {wb:World} {L L':Own} {f:FuncId} {args:Array Value} {K:Value→World→Own→Prop} {Kp:KP} (h:∀ w,Sy wb L w→Calls P f args w (fun e w'=>e=.returned (.tuple #[])∧Sy wb L' w')) (hk:K (.tuple #[]) wb L'):CallX P f args wb L (tag K) (tag Kp) :=
 callX_own (S:=fun v L2=>v=.tuple #[]∧L2=L') (fun w hw=>(h w hw).mono fun e w' hh=>⟨_,_,hh.1,hh.2,rfl,rfl⟩) (fun v L2 hv=>by obtain ⟨rfl,rfl⟩:=hv; exact hk)
theorem mustR_walk (wb w:World) (rb:Nat) (s:List UInt8) (p:Nat) (ft:Int) (v:Value) (M:Own) (c:UInt8) (hc:sgnB c=true) (hs:s.length≤65536) (hp:p≤s.length) (hft:ft=-1∨0≤ft) (hrb:wb.heap.size≤rb) (hw:Sy wb (oRr rb s p ft v::M) w) :
 Calls Tryz.prog 114 #[.pointer (some ⟨rb,0,none⟩),str [c]] w (fun e w'=>∃ x L',e=.returned x∧Sy wb L' w'∧x=.tuple #[]∧∃ (p':Nat) (ft':Int),StepR s ft p (pMust s c (blP s p)) (fun _=>True) p' ft'∧L'=oRr rb s p' ft' v::M):=by
 refine enterB (args:=[.pointer (some ⟨rb,0,none⟩),str [c]]) Tryz.func114 rfl Tryz.ntmps114 (congrArg Array.toList Tryz.results114) (by kernel_rfl) (by simp) hw ?_
 refine sp ?_
 refine callV en_43 (callX_two (fun L'=>ft=-1∧s[blP s p]?=some c∧L'=oRr rb s ((blP s p+1:Nat):Int) ft v::M) (fun L'=>¬ (ft=-1∧s[blP s p]?=some c)∧L'=oRr rb s p ft v::M) (fun w' hw'=>signR_walk wb w' rb s p ft v M c hc hs hp hft hrb hw') (fun L' hL'=>?_) (fun L' hL'=>?_))
 ·have g1:=hL'.1
  have g2:=hL'.2.1
  have g3:=hL'.2.2
  subst g3
  have hlt:=(List.getElem?_eq_some_iff.1 g2).1
  simp (disch:=omega) only[push_cast,qE,Bool.not_true]
  rw[Vc]
  simp (disch:=omega) only[push_cast,qE,Bool.not_true]
  refine fun w' hw'=>⟨_,_,rfl,hw',rfl,blP s p+1,ft,⟨Nat.le_trans (runP_ge _ _ _) (Nat.le_succ _),by omega,.inl ⟨g1,g1,(),?_,trivial⟩⟩,rfl⟩
  unfold pMust pSign
  rw[if_pos g2]
 ·have g1:=hL'.1
  have g3:=hL'.2
  subst g3
  simp (disch:=omega) only[push_cast,qE,Bool.not_false]
  rw[Vc]
  simp (disch:=omega) only[push_cast,qE,Bool.not_false]
  refine callV en_75 (callX_unit (fun w' hw'=>badR_walk wb w' rb s p ft v M hs hp hrb hw') ?_)
  refine sp ?_
  refine fun w' hw'=>⟨_,_,rfl,hw',rfl,p,if ft < 0 then (blP s p:Int) else ft,⟨Nat.le_refl _,hp,.inr ⟨?_,fun h=>⟨blP s p,?_,?_⟩,fun h=>?_⟩⟩,rfl⟩
  ·split
   ·omega
   ·omega
  ·unfold pMust pSign
   rw[if_neg (fun h2=>g1 ⟨h,h2⟩)]
  ·rw[if_pos (by omega)]
  ·rw[if_neg (by omega)]
theorem nameR_walk (wb w:World) (rb:Nat) (s:List UInt8) (p:Nat) (ft:Int) (v:Value) (M:Own) (hs:s.length≤65536) (hp:p≤s.length) (hft:ft=-1∨0≤ft) (hrb:wb.heap.size≤rb) (hw:Sy wb (oRr rb s p ft v::M) w) :
 Calls Tryz.prog 79 #[.pointer (some ⟨rb,0,none⟩)] w (fun e w'=>∃ x L',e=.returned x∧Sy wb L' w'∧∃ (l:List UInt8) (p':Nat) (ft':Int),x=str l∧l.length≤s.length∧StepR s ft p (pWord s (blP s p)) (fun y=>l=y∧p < p') p' ft'∧L'=oRr rb s p' ft' v::M):=by
 have hsee:∀ w',Sy wb (oRr rb s p ft v::M) w'→Calls Tryz.prog 41 #[.pointer (some ⟨rb,0,none⟩)] w' (Rets w' (Is (.agg (tokP s p).cells))):=fun w' hw'=>seeR_walk w' rb s p hs hp (At.of_own hw' (.head _) rfl)
 have h1:=tok_word s p
 generalize tokP s p=t at h1 hsee
 refine enterB (args:=[.pointer (some ⟨rb,0,none⟩)]) Tryz.func79 rfl Tryz.ntmps79 (congrArg Array.toList Tryz.results79) (by kernel_rfl) (by simp) hw ?_
 refine sp ?_
 refine callV en_41 (cIs hsee ?_)
 refine sp ?_
 refine newI (fun b3 hb3 hn3=>?_)
 refine sp ?_
 refine sXa 0 rfl Siz.eq rfl rfl ?_
 refine sp ?_
 refine lOn Shp.eq mem0 rfl ?_
 refine sp ?_
 rw[Vc]
 refine sp ?_
 have hfs:(0:Int)≤(if ft < 0 then (blP s p:Int) else ft):=by
  split
  ·omega
  ·omega
 refine cdD (fun hk=>?_) (fun hk=>?_)
 ·have hwe:weP s (blP s p)=blP s p:=by
   rcases h1 with ⟨h,_⟩|⟨_,h⟩
   ·omega
   ·exact h
  refine sp ?_
  refine callV en_75 (callX_weak (L':=oRr rb s p ft v::M) (fun w' hw'=>(Sy.drop hw' (.cons _ (List.Sublist.refl _)) (fun b hb=>by
   rcases List.mem_cons.1 hb with rfl|hb
   ·exact .inr hb3
   ·exact .inl hb))) (callX_unit (fun w' hw'=>badR_walk wb w' rb s p ft v M hs hp hrb hw') ?_))
  refine sp ?_
  refine lOn Shp.eq mem0 rfl ?_
  refine sp ?_
  rw[Vc]
  refine sp ?_
  refine cdD (fun _=>?_) (fun h=>absurd hfs h)
  refine sp ?_
  refine fun w' hw'=>⟨_,_,rfl,hw',[],p,if ft < 0 then (blP s p:Int) else ft,rfl,Nat.zero_le _,⟨Nat.le_refl _,hp,.inr ⟨hfs,fun h=>⟨blP s p,?_,?_⟩,fun h=>?_⟩⟩,rfl⟩
  ·unfold pWord
   rw[if_pos hwe]
  ·rw[if_pos (by omega)]
  ·rw[if_neg (by omega)]
 ·obtain ⟨w1,w2,w3⟩:weP s (blP s p)≠blP s p∧t.tx=(s.take (weP s (blP s p))).drop (blP s p)∧t.nx=weP s (blP s p):=by
   rcases h1 with ⟨_,h⟩|⟨h,_⟩
   ·exact h
   ·omega
  have hq:blP s p≤s.length:=runP_le hp
  have hwl:weP s (blP s p)≤s.length:=runP_le hq
  have hwg:blP s p≤weP s (blP s p):=runP_ge _ _ _
  have hbg:p≤blP s p:=runP_ge _ _ _
  refine sp ?_
  refine lOn Shp.eq mem1 rfl ?_
  refine sp ?_
  rw[Vc]
  refine sp ?_
  refine cdD (fun hf=>?_) (fun hf=>?_)
  ·refine sp ?_
   exact fun w' hw'=>⟨_,_,rfl,(Sy.drop hw' (.cons _ (List.Sublist.refl _)) (fun b hb=>by
   rcases List.mem_cons.1 hb with rfl|hb
   ·exact .inr hb3
   ·exact .inl hb)),[],p,ft,rfl,Nat.zero_le _,⟨Nat.le_refl _,hp,.inr ⟨hf,fun h=>by omega,fun _=>rfl⟩⟩,rfl⟩
  ·refine sp ?_
   refine lOn Shp.eq mem0 rfl ?_
   refine sp ?_
   refine sXa 1 rfl Siz.eq rfl rfl ?_
   refine sp ?_
   refine lOn Shp.eq mem0 rfl ?_
   refine sp ?_
   rw[w2,w3]
   refine fun w' hw'=>⟨_,_,rfl,(Sy.drop hw' (.cons _ (List.Sublist.refl _)) (fun b hb=>by
   rcases List.mem_cons.1 hb with rfl|hb
   ·exact .inr hb3
   ·exact .inl hb)),_,weP s (blP s p),ft,rfl,by rw[List.length_drop,List.length_take]; omega,⟨by omega,hwl,.inl ⟨by omega,by omega,_,?_,rfl,by omega⟩⟩,rfl⟩
   unfold pWord
   rw[if_neg w1]
theorem tok_quote (s:List UInt8) (p:Nat):(s[blP s p]?=some 34∧tokP s p=quoP s (blP s p))∨(s[blP s p]?≠some 34∧(tokP s p).k≠3):=by
 unfold tokP tokQ
 generalize blP s p=q
 cases hq:s[q]? with
 | none=>exact .inr ⟨by simp,by simp⟩
 | some d =>
  simp only
  split
  ·rename_i hl
   exact .inr ⟨fun h=>(by cases h; revert hl; decide),by simp⟩
  split
  ·rename_i hl
   exact .inr ⟨fun h=>(by cases h; revert hl; decide),by simp⟩
  split
  ·rename_i h
   exact .inl ⟨by rw[h],rfl⟩
  ·rename_i h
   exact .inr ⟨fun h2=>h (by cases h2; rfl),by simp⟩
theorem textR_walk (wb w:World) (rb:Nat) (s:List UInt8) (p:Nat) (ft:Int) (v:Value) (M:Own) (hs:s.length≤65536) (hp:p≤s.length) (hft:ft=-1∨0≤ft) (hrb:wb.heap.size≤rb) (hw:Sy wb (oRr rb s p ft v::M) w) :
 Calls Tryz.prog 44 #[.pointer (some ⟨rb,0,none⟩)] w (fun e w'=>∃ x L',e=.returned x∧Sy wb L' w'∧∃ (l:List UInt8) (p':Nat) (ft':Int),x=str l∧(0≤ft'→l=[])∧StepR s ft p (pQuote s (blP s p)) (fun y=>l=y) p' ft'∧L'=oRr rb s p' ft' v::M):=by
 have hsee:∀ w',Sy wb (oRr rb s p ft v::M) w'→Calls Tryz.prog 41 #[.pointer (some ⟨rb,0,none⟩)] w' (Rets w' (Is (.agg (tokP s p).cells))):=fun w' hw'=>seeR_walk w' rb s p hs hp (At.of_own hw' (.head _) rfl)
 have h1:((tokP s p).k≠3∧pQuote s (blP s p)=.no (blP s p))∨((tokP s p).k=3∧((∃ f:Nat,(tokP s p).ft=f∧pQuote s (blP s p)=.no f)∨(∃ r:Nat,(tokP s p).ft=-1∧(tokP s p).nx=r∧p≤r∧r≤s.length∧pQuote s (blP s p)=.ok (tokP s p).tx (blP s r)))):=by
  have hbg:p≤blP s p:=runP_ge _ _ _
  rcases tok_quote s p with ⟨h,e⟩|⟨h,e⟩
  ·rw[e]
   refine .inr ⟨quoP_k _ _,?_⟩
   have hlt:=(List.getElem?_eq_some_iff.1 h).1
   unfold pQuote quoP
   rw[if_pos h]
   cases hr:pRest s (s.length+1) (blP s p+1) with
   | no f=>exact .inl ⟨f,rfl,rfl⟩
   | ok l r =>
    have:=pRest_le _ _ _ _ (by omega) hr
    exact .inr ⟨r,rfl,rfl,by omega,this.2,rfl⟩
  ·refine .inl ⟨e,?_⟩
   unfold pQuote
   rw[if_neg h]
 generalize tokP s p=t at h1 hsee
 refine enterB (args:=[.pointer (some ⟨rb,0,none⟩)]) Tryz.func44 rfl Tryz.ntmps44 (congrArg Array.toList Tryz.results44) (by kernel_rfl) (by simp) hw ?_
 refine sp ?_
 refine callV en_41 (cIs hsee ?_)
 refine sp ?_
 refine newI (fun b3 hb3 hn3=>?_)
 refine sp ?_
 refine sXa 0 rfl Siz.eq rfl rfl ?_
 refine sp ?_
 refine lOn Shp.eq mem0 rfl ?_
 refine sp ?_
 rw[Vc]
 refine sp ?_
 have hfs:(0:Int)≤(if ft < 0 then (blP s p:Int) else ft):=by
  split
  ·omega
  ·omega
 refine cdD (fun hk=>?_) (fun hk=>?_)
 ·have hwe:pQuote s (blP s p)=.no (blP s p):=by
   rcases h1 with ⟨_,h⟩|⟨h,_⟩
   ·exact h
   ·omega
  refine sp ?_
  refine callV en_75 (callX_weak (L':=oRr rb s p ft v::M) (fun w' hw'=>(Sy.drop hw' (.cons _ (List.Sublist.refl _)) (fun b hb=>by
   rcases List.mem_cons.1 hb with rfl|hb
   ·exact .inr hb3
   ·exact .inl hb))) (callX_unit (fun w' hw'=>badR_walk wb w' rb s p ft v M hs hp hrb hw') ?_))
  refine sp ?_
  refine lOn Shp.eq mem0 rfl ?_
  refine sp ?_
  rw[Vc]
  refine sp ?_
  refine cdD (fun _=>?_) (fun h=>absurd hfs h)
  refine sp ?_
  refine fun w' hw'=>⟨_,_,rfl,hw',[],p,if ft < 0 then (blP s p:Int) else ft,rfl,fun _=>rfl,⟨Nat.le_refl _,hp,.inr ⟨hfs,fun h=>⟨blP s p,hwe,?_⟩,fun h=>?_⟩⟩,rfl⟩
  ·rw[if_pos (by omega)]
  ·rw[if_neg (by omega)]
 have h2:(∃ f:Nat,t.ft=f∧pQuote s (blP s p)=.no f)∨(∃ r:Nat,t.ft=-1∧t.nx=r∧p≤r∧r≤s.length∧pQuote s (blP s p)=.ok t.tx (blP s r)):=by
  rcases h1 with ⟨h,_⟩|⟨_,h⟩
  ·omega
  ·exact h
 refine sp ?_
 refine lOn Shp.eq mem0 rfl ?_
 refine sp ?_
 refine h2.elim (fun hbad=>?_) (fun hgood=>?_)
 ·(refine Exists.elim (hbad) (fun f hz=>?_); have hf1:=hz.1; have hf2:=hz.2; clear hz)
  refine gT rfl (fun _=>?_) (fun h=>by omega)
  refine sp ?_
  refine lOn Shp.eq mem1 rfl ?_
  refine sp ?_
  rw[Vc]
  refine sp ?_
  refine cdD (fun hneg=>?_) (fun hneg=>?_)
  ·refine sp ?_
   refine lOn Shp.eq mem0 rfl ?_
   refine sp ?_
   refine sXa 1 rfl Siz.eq rfl rfl ?_
   refine sp ?_
   refine lOn Shp.eq mem1 rfl ?_
   refine sp ?_
   rw[Vc]
   refine sp ?_
   refine cdD (fun _=>?_) (fun h=>by omega)
   refine sp ?_
   rw[hf1]
   refine fun w' hw'=>⟨_,_,rfl,(Sy.drop hw' (.cons _ (List.Sublist.refl _)) (fun b hb=>by
   rcases List.mem_cons.1 hb with rfl|hb
   ·exact .inr hb3
   ·exact .inl hb)),[],p,(f:Int),rfl,fun _=>rfl,⟨Nat.le_refl _,hp,.inr ⟨by omega,fun h=>⟨f,hf2,rfl⟩,fun h=>by omega⟩⟩,rfl⟩
  ·refine sp ?_
   refine lOn Shp.eq mem1 rfl ?_
   refine sp ?_
   rw[Vc]
   refine sp ?_
   refine cdD (fun hf=>?_) (fun h=>by omega)
   refine sp ?_
   exact fun w' hw'=>⟨_,_,rfl,(Sy.drop hw' (.cons _ (List.Sublist.refl _)) (fun b hb=>by
   rcases List.mem_cons.1 hb with rfl|hb
   ·exact .inr hb3
   ·exact .inl hb)),[],p,ft,rfl,fun _=>rfl,⟨Nat.le_refl _,hp,.inr ⟨hf,fun h=>by omega,fun _=>rfl⟩⟩,rfl⟩
 ·(refine Exists.elim (hgood) (fun r hz=>?_); have hg1:=hz.1; have hg2:=hz.2.1; have hg3:=hz.2.2.1; have hg4:=hz.2.2.2.1; have hg5:=hz.2.2.2.2; clear hz)
  refine gT rfl (fun h=>?_) (fun _=>?_)
  ·exfalso; omega
  refine sp ?_
  rw[Vc]
  refine sp ?_
  refine lOn Shp.eq mem1 rfl ?_
  refine sp ?_
  rw[Vc]
  refine sp ?_
  refine cdD (fun hf=>?_) (fun hf=>?_)
  ·refine sp ?_
   exact fun w' hw'=>⟨_,_,rfl,(Sy.drop hw' (.cons _ (List.Sublist.refl _)) (fun b hb=>by
   rcases List.mem_cons.1 hb with rfl|hb
   ·exact .inr hb3
   ·exact .inl hb)),[],p,ft,rfl,fun _=>rfl,⟨Nat.le_refl _,hp,.inr ⟨hf,fun h=>by omega,fun _=>rfl⟩⟩,rfl⟩
  ·refine sp ?_
   refine lOn Shp.eq mem0 rfl ?_
   refine sp ?_
   refine sXa 1 rfl Siz.eq rfl rfl ?_
   refine sp ?_
   refine lOn Shp.eq mem0 rfl ?_
   refine sp ?_
   have hft1:ft=-1:=hft.resolve_right hf
   rw[hg2]
   exact fun w' hw'=>⟨_,_,rfl,(Sy.drop hw' (.cons _ (List.Sublist.refl _)) (fun b hb=>by
   rcases List.mem_cons.1 hb with rfl|hb
   ·exact .inr hb3
   ·exact .inl hb)),_,r,ft,rfl,fun h=>absurd h hf,⟨hg3,hg4,.inl ⟨hft1,hft1,_,hg5,rfl⟩⟩,rfl⟩
theorem tok_end (s:List UInt8) (p:Nat) (hp:p≤s.length):(tokP s p).k=0↔blP s p=s.length:=by
 have hle:blP s p≤s.length:=runP_le hp
 unfold tokP tokQ
 generalize blP s p=q at hle
 cases hq:s[q]? with
 | none =>
  refine ⟨fun _=>?_,fun _=>rfl⟩
  rcases Nat.lt_or_ge q s.length with h|h
  ·rw[qH h] at hq; cases hq
  ·omega
 | some d =>
  have hlt:=(List.getElem?_eq_some_iff.1 hq).1
  refine ⟨fun h=>?_,fun h=>by omega⟩
  simp only at h
  split at h
  ·cases h
  split at h
  ·cases h
  split at h
  ·rw[quoP_k] at h; cases h
  ·cases h
theorem endR_walk (wb w:World) (rb:Nat) (s:List UInt8) (p:Nat) (ft:Int) (v:Value) (M:Own) (hs:s.length≤65536) (hp:p≤s.length) (hft:ft=-1∨0≤ft) (hrb:wb.heap.size≤rb) (hw:Sy wb (oRr rb s p ft v::M) w) :
 Calls Tryz.prog 45 #[.pointer (some ⟨rb,0,none⟩)] w (fun e w'=>∃ x L',e=.returned x∧Sy wb L' w'∧x=.tuple #[]∧∃ (p':Nat) (ft':Int),StepR s ft p (pEnd s () (blP s p)) (fun _=>True) p' ft'∧L'=oRr rb s p' ft' v::M):=by
 have hsee:∀ w',Sy wb (oRr rb s p ft v::M) w'→Calls Tryz.prog 41 #[.pointer (some ⟨rb,0,none⟩)] w' (Rets w' (Is (.agg (tokP s p).cells))):=fun w' hw'=>seeR_walk w' rb s p hs hp (At.of_own hw' (.head _) rfl)
 have h1:=tok_end s p hp
 have hle:blP s p≤s.length:=runP_le hp
 generalize tokP s p=t at h1 hsee
 refine enterB (args:=[.pointer (some ⟨rb,0,none⟩)]) Tryz.func45 rfl Tryz.ntmps45 (congrArg Array.toList Tryz.results45) (by kernel_rfl) (by simp) hw ?_
 refine sp ?_
 refine callV en_41 (cIs hsee ?_)
 refine sp ?_
 rw[Vc]
 refine sp ?_
 refine cdD (fun hk=>?_) (fun hk=>?_)
 ·have hlt:blP s p < s.length:=by
   rcases Nat.lt_or_ge (blP s p) s.length with h|h
   ·exact h
   ·exact absurd (h1.2 (by omega)) (by omega)
  refine sp ?_
  refine callV en_75 (callX_unit (fun w' hw'=>badR_walk wb w' rb s p ft v M hs hp hrb hw') ?_)
  refine sp ?_
  refine fun w' hw'=>⟨_,_,rfl,hw',rfl,p,if ft < 0 then (blP s p:Int) else ft,⟨Nat.le_refl _,hp,.inr ⟨?_,fun h=>⟨blP s p,?_,?_⟩,fun h=>?_⟩⟩,rfl⟩
  ·split
   ·omega
   ·omega
  ·unfold pEnd
   rw[if_pos hlt]
  ·rw[if_pos (by omega)]
  ·rw[if_neg (by omega)]
 ·have heq:blP s p=s.length:=h1.1 (by omega)
  refine sp ?_
  refine fun w' hw'=>⟨_,_,rfl,hw',rfl,p,ft,⟨Nat.le_refl _,hp,?_⟩,rfl⟩
  rcases hft with h|h
  ·refine .inl ⟨h,h,(),?_,trivial⟩
   unfold pEnd
   rw[if_neg (by omega)]
  ·exact .inr ⟨h,fun h2=>by omega,fun _=>rfl⟩
end Go.Proofs.YtdmdgkpjjpijdaaGreatDoor
