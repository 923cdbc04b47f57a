/- YtilejcofleeeiaaGreatDoor: walks, part 260: the reference's reader: a text. -/
import Derived.Test.YtilejcofleeeiaaGreatDoorW265
namespace Go.Proofs.YtilejcofleeeiaaGreatDoor
open Go Go.K
open Nat renaming reduceEqDiff → qE
open List renaming mem_append_right → qR, length_append → qA
set_option maxRecDepth 100000
set_option linter.unusedVariables false
set_option linter.unusedSimpArgs false
set_option maxHeartbeats 4000000
theorem mustV_at {s t:List UInt8} {q:Nat} (h:q+t.length≤s.length) (h2:(s.take (q+t.length)).drop q=t):mustV s t q=.ok () (q+t.length):=by
 refine mustV_yes (x:=(s.drop q).drop t.length) ?_
 conv=>rhs; rw[← h2]
 rw[List.drop_take,show q+t.length - q=t.length by omega]
 rw[show ((s.drop q).take t.length).length=t.length by rw[List.length_take,List.length_drop]; omega]
 exact (List.take_append_drop _ _).symm
theorem mustV_not {s t:List UInt8} {q:Nat} (hq:q≤s.length) (h:¬ (q+t.length≤s.length∧(s.take (q+t.length)).drop q=t)):mustV s t q=.no 8 q:=by
 unfold mustV
 rw[if_neg]
 intro h2
 obtain ⟨x,hx⟩:=List.isPrefixOf_iff_prefix.1 h2
 have hl:=congrArg List.length hx
 rw[qA,List.length_drop] at hl
 refine h ⟨by omega,?_⟩
 rw[List.drop_take,show q+t.length - q=t.length by omega,← hx,List.take_left]
theorem mustR_no (w:World) (rb:Nat) (s t:List UInt8) (p:Nat) (bd:Nat) (e0:Int) (he:e0≠0) (hat:At w rb 0 [str s,i64 p,i64 e0,i64 bd]) :
 Calls Tryz.prog 95 #[pPs rb,str t] w (Rets w (Is (.tuple #[]))):=by
 refine enterT (args:=[pPs rb,str t]) Tryz.func95 rfl Tryz.ntmps95 (congrArg Array.toList Tryz.results95) (by kernel_rfl) (by simp) (Sy.refl w) ?_
 refine sp ?_
 refine ldF Shp.eq (hat.sub 2 [i64 e0] rfl) (by simp) ?_
 refine sp ?_
 rw[Vc]
 refine sp ?_
 refine cdD (fun _=>?_) (fun h=>absurd he h)
 refine sp ?_
 exact finIs (by simp) rfl
theorem mustR_ok (wb w:World) (rb:Nat) (s t:List UInt8) (p:Nat) (M:Own) (hs:s.length≤65536) (ht:t.length≤65536) (hp:p≤s.length) (hrb:wb.heap.size≤rb) (hw:Sy wb (oRd rb s p 0 0::M) w) :
 Calls Tryz.prog 95 #[pPs rb,str t] w (RdR wb rb s M (mustV s t p) (fun _ v K=>v=.tuple #[]∧K=[]) (fun v K=>v=.tuple #[]∧K=[])):=by
 refine enterB (args:=[pPs rb,str t]) Tryz.func95 rfl Tryz.ntmps95 (congrArg Array.toList Tryz.results95) (by kernel_rfl) (by simp) hw ?_
 refine sp ?_
 refine lOn Shp.eq mem0 rfl ?_
 refine sp ?_
 rw[Vc]
 refine sp ?_
 refine cdD (fun h=>absurd rfl h) (fun _=>?_)
 refine sp ?_
 have no:mustV s t p=.no 8 p→∀ w',Sy wb (oRd rb s p 8 p::M) w'→RdR wb rb s M (mustV s t p) (fun _ v K=>v=.tuple #[]∧K=[]) (fun v K=>v=.tuple #[]∧K=[]) (.returned (.tuple #[])) w':=fun h w' hw'=>RdR.bad (.tuple #[]) [] h (by decide) ⟨rfl,rfl⟩ (by simp) hw'
 have yes:mustV s t p=.ok () (p+t.length)→∀ w',p+t.length≤s.length→Sy wb (oRd rb s (p+t.length) 0 0::M) w'→RdR wb rb s M (mustV s t p) (fun _ v K=>v=.tuple #[]∧K=[]) (fun v K=>v=.tuple #[]∧K=[]) (.returned (.tuple #[])) w':=fun h w' hq hw'=>RdR.good (.tuple #[]) [] h hq ⟨rfl,rfl⟩ (by simp) hw'
 refine drawQT (by kernel_rfl) (by kernel_rfl) mixed (by kernel_rfl) ?_
 refine sp ?_
 refine lOn Shp.eq mem0 rfl ?_
 refine sp ?_
 refine lOn Shp.eq mem0 rfl ?_
 refine sp ?_
 refine gF rfl (fun hle=>?_) (fun hgt=>?_)
 ·refine sp ?_
  refine lOn Shp.eq mem0 rfl ?_
  refine sp ?_
  refine lOn Shp.eq mem0 rfl ?_
  refine sp ?_
  refine lOn Shp.eq mem0 rfl ?_
  refine sp ?_
  rw[Vc]
  refine sp ?_
  refine cdD (fun hne=>?_) (fun heq=>?_)
  ·have hm:=mustV_not (s:=s) (t:=t) (q:=p) hp (fun h=>hne h.2)
   refine sp ?_
   refine lOn Shp.eq mem0 rfl ?_
   refine sp ?_
   refine callV en_30 (callX_own (fun w' hw'=>failR_ok wb w' rb s p 0 M 8 p hw') (fun v L' hv=>?_))
   obtain ⟨rfl,rfl⟩:=hv
   refine sp ?_
   exact no hm
  ·have hm:=mustV_at (s:=s) (t:=t) (q:=p) (by omega) (Decidable.not_not.1 heq)
   refine sp ?_
   refine lOn Shp.eq mem0 rfl ?_
   refine sp ?_
   refine sXa 0 rfl Siz.eq rfl rfl ?_
   refine sp ?_
   exact fun w' hw'=>yes hm w' (by omega) (by rw[oRd,Int.natCast_add]; simpa [splice] using hw')
 ·have hm:=mustV_not (s:=s) (t:=t) (q:=p) hp (fun h=>by omega)
  refine sp ?_
  rw[Vc]
  refine sp ?_
  refine lOn Shp.eq mem0 rfl ?_
  refine sp ?_
  refine callV en_30 (callX_own (fun w' hw'=>failR_ok wb w' rb s p 0 M 8 p hw') (fun v L' hv=>?_))
  obtain ⟨rfl,rfl⟩:=hv
  refine sp ?_
  exact no hm
theorem digitR_walk (w:World) (c:UInt8):Calls Tryz.prog 99 #[.int .u8 c.toNat] w (Rets w (Is (i64 (match digV c with|some d=>(d:Int)|none=>-1)))):=by
 refine enterT (args:=[.int .u8 c.toNat]) Tryz.func99 rfl Tryz.ntmps99 (congrArg Array.toList Tryz.results99) (by kernel_rfl) (by simp) (Sy.refl w) ?_
 have hc:=c.toNat_lt
 have fin:∀ (n:Int),(n=if 48≤c.toNat∧c.toNat≤57 then (c.toNat:Int) - 48 else if 97≤c.toNat∧c.toNat≤102 then (c.toNat:Int) - 87 else -1)→i64 n=i64 (match digV c with|some d=>(d:Int)|none=>-1):=fun n hn=>by
  rw[hn]
  unfold digV
  by_cases h1:48≤c.toNat∧c.toNat≤57
  ·simp only[if_pos h1]; congr 1; omega
  by_cases h2:97≤c.toNat∧c.toNat≤102
  ·simp only[if_neg h1,if_pos h2]; congr 1; omega
  ·simp only[if_neg h1,if_neg h2]
 refine sp ?_
 repeat' (first|((first|((first|refine gT rfl ?_ ?_|refine gF rfl ?_ ?_|refine cdD ?_ ?_)<;>intro h)|((first|refine gbT rfl ?_ ?_|refine gbF rfl ?_ ?_|refine cdB ?_ ?_)<;>intro h<;>(try subst h))|refine lOa Shp.eq rfl ?_|refine lAa Shp.eq rfl rfl ?_|refine newI (fun b hb hn=>?_)|refine sXb Siz.eq rfl rfl ?_)<;>simp (disch:=omega) only[push_cast,qE])|(first|rw[Vc]|rw[Vb])<;>(try simp (disch:=omega) only[push_cast,qE]))
 all_goals
  refine finIs (by simp) (fin _ ?_)
  first
   | (rw[if_pos (by omega)]; done)
   | (rw[if_pos (by omega)]; omega)
   | (rw[if_neg (by omega),if_pos (by omega)]; omega)
   | (rw[if_neg (by omega),if_neg (by omega)])
abbrev zeroA:Value:=.agg #[.bool false,i64 0,str [],.slice none 0 0]
theorem valueR_no (w:World) (rb:Nat) (s:List UInt8) (p:Nat) (e0:Int) (bd:Nat) (f:Fld) (a:Option Addr) (c:Nat) (he:e0≠0) (hat:At w rb 0 [str s,i64 p,i64 e0,i64 bd]) :
 Calls Tryz.prog 29 #[pPs rb,.agg (f.cells a c).toArray] w (Rets w (Is zeroA)):=by
 refine enterT (args:=[pPs rb,.agg (f.cells a c).toArray]) Tryz.func29 rfl Tryz.ntmps29 (congrArg Array.toList Tryz.results29) (by kernel_rfl) (by simp) (Sy.refl w) ?_
 simp (disch:=omega) only[push_cast,qE,Fld.cells]
 refine newI (fun b3 hb3 hn3=>?_)
 simp (disch:=omega) only[push_cast,qE,Fld.cells]
 refine newI (fun b4 hb4 hn4=>?_)
 simp (disch:=omega) only[push_cast,qE,Fld.cells]
 refine lAg Shp.eq mem1 rfl rfl ?_
 refine sp ?_
 refine newI (fun b5 hb5 hn5=>?_)
 refine sp ?_
 refine sXa 0 rfl Siz.eq rfl rfl ?_
 refine sp ?_
 have hrb:rb < w.heap.size:=hat.lt
 refine ldF Shp.eq (hat.sub 2 [i64 e0] rfl) (by simp; omega) ?_
 refine sp ?_
 rw[Vc]
 refine sp ?_
 refine cdD (fun _=>?_) (fun h=>absurd he h)
 refine sp ?_
 refine sXa 1 rfl Siz.eq rfl rfl ?_
 refine sp ?_
 refine lAg Shp.eq mem1 rfl rfl ?_
 refine sp ?_
 exact finIs (fun q hq=>by
  simp only[List.mem_cons,List.mem_nil_iff,or_false] at hq
  rcases hq with rfl|rfl|rfl<;>assumption) rfl
def VfS (v:Value) (K:Own):Prop:=∃ (y:Vl) (a:Option Addr) (c:Nat),v=.agg (y.cells a c).toArray
def RvOK (d:Nat):Prop:=∀ (wb w:World) (lo rb:Nat) (s:List UInt8) (p:Nat) (M:Own) (ind:Bool) (f:Fld) (a:Option Addr) (c:Nat),lo≤wb.heap.size→okT d ind f→FlAt wb lo f a c→s.length≤65536→p≤s.length→wb.heap.size≤rb→(∀ b∈M,wb.heap.size≤b.1)→Sy wb (oRd rb s p 0 0::M) w →
 Calls Tryz.prog 29 #[pPs rb,.agg (f.cells a c).toArray] w (RdR wb rb s M (readV s d f p) VlS VfS)
def OutV (s:List UInt8) (d:Nat) (f:Fld) (q:Nat) (e0:Int) (b0:Nat) (g:GotV):Prop :=
 (e0=0→(g.er=0∧g.bd=0∧g.p≤s.length∧readV s d f q=.ok g.y g.p∧∃ its,ZeV g.y its g.a2 g.c2∧g.K=ownR its)∨(g.er≠0∧readV s d f q=.no g.er g.bd))∧(e0≠0→g.er=e0∧g.bd=b0)
theorem valueR_any {d:Nat} (hP:RvOK d) (wb w:World) (lo rb:Nat) (s:List UInt8) (q:Nat) (e0:Int) (b0:Nat) (M:Own) (ind:Bool) (f:Fld) (a:Option Addr) (c:Nat) (hlo:lo≤wb.heap.size) (hok:okT d ind f) (hA:FlAt wb lo f a c) (hs:s.length≤65536) (hq:e0=0→b0=0∧q≤s.length) (hrb:wb.heap.size≤rb) (hM:∀ b∈M,wb.heap.size≤b.1) (hw:Sy wb (oRd rb s q e0 b0::M) w) :
 Calls Tryz.prog 29 #[pPs rb,.agg (f.cells a c).toArray] w (fun e w'=>∃ v L',e=.returned v∧Sy wb L' w'∧∃ g:GotV,OutV s d f q e0 b0 g∧(∀ b∈g.K,wb.heap.size≤b.1)∧v=.agg (g.y.cells g.a2 g.c2).toArray∧L'=oRd rb s g.p g.er g.bd::(g.K++M)):=by
 by_cases he:e0=0
 ·subst he
  obtain ⟨hb0,hq3⟩:=hq rfl
  subst hb0
  refine (hP wb w lo rb s q M ind f a c hlo hok hA hs hq3 hrb hM hw).mono fun e w' hx=>?_
  obtain ⟨v,K,rfl,hK,⟨y,p,h1,h2,⟨its,a2,c2,h3,rfl,rfl⟩,h4⟩|⟨er,bd,p,h1,h2,⟨y,a2,c2,rfl⟩,h4⟩⟩:=hx
  ·exact ⟨_,_,rfl,h4,⟨p,0,0,y,a2,c2,ownR its⟩,⟨fun _=>.inl ⟨rfl,rfl,h2,h1,its,h3,rfl⟩,fun h=>absurd rfl h⟩,hK,rfl,rfl⟩
  ·exact ⟨_,_,rfl,h4,⟨p,er,bd,y,a2,c2,K⟩,⟨fun _=>.inr ⟨h2,h1⟩,fun h=>absurd rfl h⟩,hK,rfl,rfl⟩
 ·refine (valueR_no w rb s q e0 b0 f a c he (At.of_own hw mem0 rfl)).mono fun e w' ⟨v,h1,h2,h3⟩=>?_
  subst h1; subst h3
  exact ⟨_,_,rfl,hw.frame h2,⟨q,e0,b0,.mk false 0 [] [],none,0,[]⟩,⟨fun h=>absurd h he,fun _=>⟨rfl,rfl⟩⟩,by simp,rfl,rfl⟩
def escHit (l:List UInt8) (c:Nat):Bool:=!(escP (UInt8.ofNat c)).isEmpty && (escP (UInt8.ofNat c)).isPrefixOf l
def escO (l:List UInt8):Value:=match escR l with|some (x,n)=>.tuple #[.int .u8 x.toNat,i64 (n:Nat)]|none=>.tuple #[.int .u8 0,i64 0]
structure EcI (w0:World) (s:List UInt8) (i:Nat) (wb:World) (e:Env) (ds:List Deferred) (L:Own):Prop where
 hw:wb=w0
 hds:ds=[]
 o:L=[]
 hi:i≤128
 hn:∀ j,j < i→escHit s j=false
 h0:e 0=str s
 h4:e 4=i64 i
theorem escR_hit {l:List UInt8} {i:Nat} (hi:i < 128) (h:escHit l i=true) (hn:∀ j,j < i→escHit l j=false):escR l=some (UInt8.ofNat i,(escP (UInt8.ofNat i)).length):=by
 unfold escR
 have:(List.range 128).find? (escHit l)=some i:=List.find?_range_eq_some.2 ⟨h,List.mem_range.2 hi,fun j hj=>by rw[hn j hj]; rfl⟩
 show ((List.range 128).find? (escHit l)).map _=_
 rw[this]
 rfl
theorem escR_none {l:List UInt8} (hn:∀ j,j < 128→escHit l j=false):escR l=none:=by
 unfold escR
 have:(List.range 128).find? (escHit l)=none:=List.find?_eq_none.2 fun j hj=>by rw[hn j (List.mem_range.1 hj)]; simp
 show ((List.range 128).find? (escHit l)).map _=_
 rw[this]
 rfl
theorem escaped_R (w:World) (s:List UInt8) (hs:s.length≤65536):Calls Tryz.prog 97 #[str s] w (Rets w (Is (escO s))):=by
 refine enterT (args:=[str s]) Tryz.func97 rfl Tryz.ntmps97 (congrArg Array.toList Tryz.results97) (by kernel_rfl) (by simp) (Sy.refl w) ?_
 refine sp ?_
 rw[Vb]
 refine sp ?_
 refine loopW (G:=Nat) (EcI w s) (fun i=>128 - i) 0 _ (fun w hw=>hw) (by kernel_rfl) ⟨rfl,rfl,rfl,by omega,fun j hj=>absurd hj (Nat.not_lt_zero _),rfl,rfl⟩ ?_
 rintro i wb e ds L ⟨rfl,rfl,rfl,hi,hn,h0,h4⟩
 simp (disch:=omega) only[push_cast,qE,h4]
 rw[Vc]
 simp (disch:=omega) only[push_cast,qE,h4]
 refine cdD (fun hlt=>?_) (fun hge=>?_)
 rotate_left
 ·refine sp ?_
  exact finIs (by simp) (by unfold escO; rw[escR_none (fun j hj=>hn j (by omega))])
 obtain ⟨c,hc⟩:∃ c,UInt8.ofNat i=c:=⟨_,rfl⟩
 have hcn:c.toNat=i:=by rw[← hc,UInt8.toNat_ofNat']; omega
 have ew:IntKind.u8.wrap (i:Int)=(c.toNat:Int):=by rw[hcn]; simp[IntKind.wrap,IntKind.bits,IntKind.signed]; omega
 have hit:escHit s i=(!(escP c).isEmpty && (escP c).isPrefixOf s):=by unfold escHit; rw[hc]
 have hel:=esc_len c
 simp (disch:=omega) only[push_cast,qE,h4]
 rw[Vb]
 simp (disch:=omega) only[push_cast,qE,h4,ew]
 refine callV en_78 (cIs (fun w' _=>escapeR_walk w' c) ?_)
 have next:escHit s i=false→∀ j,j < i+1→escHit s j=false:=fun h j hj=>by
  rcases Nat.lt_or_eq_of_le (Nat.le_of_lt_succ hj) with h1|rfl
  ·exact hn j h1
  ·exact h
 simp (disch:=omega) only[push_cast,qE,h0,h4]
 refine gT rfl (fun hne=>?_) (fun he=>?_)
 ·simp (disch:=omega) only[push_cast,qE,h0,h4]
  refine gT rfl (fun hle=>?_) (fun hgt=>?_)
  ·simp (disch:=omega) only[push_cast,qE,h0,h4,Int.toNat_natCast]
   rw[Vc]
   simp (disch:=omega) only[push_cast,qE,h0,h4]
   refine cdD (fun heq=>?_) (fun hneq=>?_)
   ·have hh:escHit s i=true:=by
     rw[hit,Bool.and_eq_true]
     exact ⟨un hne,List.isPrefixOf_iff_prefix.2 (by rw[← heq]; exact List.take_prefix _ _)⟩
    simp (disch:=omega) only[push_cast,qE,h4,ew]
    refine finIs (by simp) ?_
    unfold escO
    rw[escR_hit (by omega) hh hn,hc]
   ·have hh:escHit s i=false:=by
     rw[hit,Bool.and_eq_false_iff]
     refine .inr (Bool.eq_false_iff.2 fun h=>hneq ?_)
     obtain ⟨x,hx⟩:=List.isPrefixOf_iff_prefix.1 h
     rw[← hx,List.take_left]
    simp (disch:=omega) only[push_cast,qE,h4]
    exact ⟨i+1,_,fun w hw=>hw,⟨rfl,rfl,rfl,by omega,next hh,h0,i64_eq (by omega)⟩,by omega⟩
  ·have hh:escHit s i=false:=by
    rw[hit,Bool.and_eq_false_iff]
    refine .inr (Bool.eq_false_iff.2 fun h=>hgt ?_)
    have:=(List.isPrefixOf_iff_prefix.1 h).length_le
    omega
   simp (disch:=omega) only[push_cast,qE,h0,h4]
   rw[Vc]
   simp (disch:=omega) only[push_cast,qE,h4]
   exact ⟨i+1,_,fun w hw=>hw,⟨rfl,rfl,rfl,by omega,next hh,h0,i64_eq (by omega)⟩,by omega⟩
 ·have hh:escHit s i=false:=by
   rw[hit,Bool.and_eq_false_iff]
   exact .inl (un he)
  simp (disch:=omega) only[push_cast,qE,h0,h4]
  rw[Vc]
  simp (disch:=omega) only[push_cast,qE,h4]
  exact ⟨i+1,_,fun w hw=>hw,⟨rfl,rfl,rfl,by omega,next hh,h0,i64_eq (by omega)⟩,by omega⟩
def RdM {α:Type} (s:List UInt8) (q:Nat) (er:Int) (bd:Nat) (r:PV α) (G:Prop):Prop:=(er=0∧bd=0∧q≤s.length∧G)∨(er≠0∧r=.no er bd)
structure TrI (w0:World) (rb:Nat) (s:List UInt8) (M:Own) (r:PV (List UInt8)) (q:Nat) (wb:World) (e:Env) (ds:List Deferred) (L:Own):Prop where
 hw:wb=w0
 hds:ds=[]
 h0:e 0=pPs rb
 o:∃ bs R er bd,L=oRd rb s q er bd::(R++M)∧RowO w0 5 1 R [] (e 3) bs.length (bytesV bs)∧bs.length≤65536∧RdM s q er bd r (bs.length≤q∧∃ m,s.length - q < m∧r=(restV s m q).and fun l r=>.ok (bs++l) r)
theorem stab_one {wb:World} {L:Own} {o:Nat×Obj} (hm:o∈L) (hn:∀ p∈L,wb.heap.size≤p.1):Stab wb L [o] :=
 stab_mem (fun p hp=>by rw[List.mem_singleton.1 hp]; exact hm) (by simp) hn
theorem rowO_slice {wb:World} {t:TypeId} {sz n:Nat} {L M:Own} {v:Value} {xs:List Value} (h:RowO wb t sz L M v n xs):∃ a c,v=.slice a n c:=by
 obtain ⟨_,⟨h1,h2,_⟩|⟨b,cap,cs,h1,_⟩⟩:=h
 ·exact ⟨none,0,by subst h2; exact h1⟩
 ·exact ⟨_,_,h1⟩
theorem textR_walk (wb w:World) (rb:Nat) (s:List UInt8) (p:Nat) (M:Own) (hs:s.length≤65536) (hp:p≤s.length) (hrb:wb.heap.size≤rb) (hM:∀ b∈M,wb.heap.size≤b.1) (hw:Sy wb (oRd rb s p 0 0::M) w) :
 Calls Tryz.prog 61 #[pPs rb] w (RdR wb rb s M (quoteV s p) (fun t v K=>v=str t∧K=[]) (fun v K=>(∃ t,v=str t)∧K=[])):=by
 refine enterB (args:=[pPs rb]) Tryz.func61 rfl Tryz.ntmps61 (congrArg Array.toList Tryz.results61) (by kernel_rfl) (by simp) hw ?_
 refine sp ?_
 refine callV en_95 (callX_ru (fun p e b K=>oRd rb s p e b::(K++M)) (fun w' hw'=>mustR_ok wb w' rb s [34] p M hs (by simp) hp hrb hw') (fun _ _ _ _ _ h=>h) (fun q0 er0 bd0 v K hmd hK=>?_))
 obtain ⟨rfl,rfl⟩:v=.tuple #[]∧K=[]:=by
  rcases hmd with ⟨x,_,_,h,_⟩|⟨_,_,h⟩<;>exact h
 refine sp ?_
 rw[Vb]
 refine sp ?_
 refine loopW (G:=Nat) (TrI wb rb s M (quoteV s p)) (fun q=>s.length - q) q0 _ (fun w hw=>hw) (by kernel_rfl) ⟨rfl,rfl,rfl,[],[],er0,bd0,rfl,⟨rfl,.inl ⟨rfl,rfl,rfl⟩⟩,by simp,?_⟩ ?_
 ·unfold quoteV
  rcases hmd with ⟨x,hr,hq,_,h1,h2⟩|⟨hr,he,_⟩
  ·refine .inl ⟨h1,h2,hq,by simp,s.length+1,by omega,?_⟩
   rw[hr,PV.and_ok]
   cases restV s (s.length+1) q0<;>rfl
  ·exact .inr ⟨he,by rw[hr,PV.and_no]⟩
 clear hw hmd hK
 rintro q wb e ds L ⟨rfl,rfl,h0,bs,R,er,bd,rfl,hR,hbl,hmd⟩
 obtain ⟨v3,h3⟩:∃ v3,e 3=v3:=⟨_,rfl⟩
 rw[h3] at hR
 obtain ⟨va,vc,rfl⟩:=rowO_slice hR
 have hRn:∀ b∈R,wb.heap.size≤b.1:=hR.new (by simp)
 have hnew:∀ q' e' b',∀ b∈oRd rb s q' e' b'::(R++M),wb.heap.size≤b.1:=fun q' e' b' b hb=>by
  rcases List.mem_cons.1 hb with rfl|hb
  ·exact hrb
  ·exact (List.mem_append.1 hb).elim (hRn b) (hM b)
 have drop:∀ {q' e' b'} {w':World},Sy wb (oRd rb s q' e' b'::(R++M)) w'→Sy wb (oRd rb s q' e' b'::([]++M)) w':=fun h=>Sy.mid [_] R h hRn
 have conv:∀ {src:TypeId} {q':Nat} {e':Int} {b':Nat} {K:Value→World→Own→Prop},Tryz.prog.underlying src=some (.slice 5)→K (str bs) wb (R++(oRd rb s q' e' b'::M))→ConvX Tryz.prog src 9 (.slice va bs.length vc) wb (oRd rb s q' e' b'::(R++M)) (tag K):=fun hsrc hK =>
  convX_weak (fun w hw=>hw.perm List.perm_middle.symm) (convS hsrc Tryz.underlying5 Tryz.underlying9 (RowO.frame hR) hK)
 simp (disch:=omega) only[push_cast,qE,h0]
 refine lOn Shp.eq mem0 rfl ?_
 simp (disch:=omega) only[push_cast,qE,h0]
 rcases hmd with ⟨rfl,rfl,hq,hbq,m,hm,hr⟩|⟨her,hr⟩
 rotate_left
 ·refine gT rfl (fun h=>absurd h her) (fun _=>?_)
  simp (disch:=omega) only[push_cast,qE,h0]
  rw[Vc]
  simp (disch:=omega) only[push_cast,qE,h0]
  refine callV en_95 (cIs (fun w' hw'=>mustR_no w' rb s [34] q bd er her (At.of_own hw' mem0 rfl)) ?_)
  simp (disch:=omega) only[push_cast,qE,h3]
  refine conv un_54 ?_
  refine sp ?_
  exact fun w' hw'=>RdR.bad _ [] hr her ⟨⟨_,rfl⟩,rfl⟩ (by simp) (drop (hw'.perm List.perm_middle))
 obtain ⟨m,rfl⟩:∃ m',m=m'+1:=⟨m - 1,by omega⟩
 refine gT rfl (fun _=>?_) (fun h=>absurd rfl h)
 simp (disch:=omega) only[push_cast,qE,h0]
 refine callV en_96 (cIs (fun w' hw'=>isR_walk w' rb s q 0 0 34 34 rfl (At.of_own hw' mem0 rfl)) ?_)
 simp (disch:=omega) only[push_cast,qE,h0]
 rw[Vc]
 simp (disch:=omega) only[push_cast,qE,h0]
 refine cdB (fun h34=>?_) (fun h34=>?_)
 rotate_left
 ·have h34:s[q]?=some 34:=by simpa using h34
  simp (disch:=omega) only[push_cast,qE,h0]
  refine callV en_95 (callX_rd (M:=R++M) (fun w' hw'=>mustR_ok wb w' rb s [34] q (R++M) hs (by simp) hq hrb hw') (fun x q1 v K hr1 hq1 hS hK=>?_) (fun er q1 p1 v K hr1 he hF hK=>?_))
  rotate_left
  ·exact absurd hr1 (by rw[mustV_yes (t:=[34]) (cons_drop h34)]; simp)
  obtain ⟨rfl,rfl⟩:=hS
  simp (disch:=omega) only[push_cast,qE,h3]
  refine conv un_54 ?_
  refine sp ?_
  exact fun w' hw'=>RdR.good _ [] (by rw[hr,rest_end h34 rfl,(mustV_some hr1).2,PV.and_ok,List.append_nil]; rfl) hq1 ⟨rfl,rfl⟩ (by simp) (drop (hw'.perm List.perm_middle))
 have h34:¬ s[q]?=some 34:=by simpa using h34
 have fail:quoteV s p=.no 8 q→∀ w',Sy wb (oRd rb s q 8 q::(R++M)) w'→RdR wb rb s M (quoteV s p) (fun t v K=>v=str t∧K=[]) (fun v K=>(∃ t,v=str t)∧K=[]) (.returned (str [])) w':=fun hr w' hw'=>RdR.bad _ [] hr (by decide) ⟨⟨_,rfl⟩,rfl⟩ (by simp) (drop hw')
 simp (disch:=omega) only[push_cast,qE,h0]
 rw[Vb]
 simp (disch:=omega) only[push_cast,qE,h0]
 refine drawQT (by kernel_rfl) (by kernel_rfl) mixed (by kernel_rfl) ?_
 simp (disch:=omega) only[push_cast,qE,h0]
 refine lOn Shp.eq mem0 rfl ?_
 simp (disch:=omega) only[push_cast,qE,h0]
 refine lOn Shp.eq mem0 rfl ?_
 simp (disch:=omega) only[push_cast,qE,h0]
 rw[Vc]
 simp (disch:=omega) only[push_cast,qE,h0]
 refine cdD (fun hge=>?_) (fun hlt=>?_)
 ·simp (disch:=omega) only[push_cast,qE,h0]
  refine lOn Shp.eq mem0 rfl ?_
  simp (disch:=omega) only[push_cast,qE,h0]
  refine callV en_30 (callX_own (fun w' hw'=>failR_ok wb w' rb s q 0 (R++M) 8 q hw') (fun v L' hv=>?_))
  obtain ⟨rfl,rfl⟩:=hv
  refine sp ?_
  exact fail (by rw[hr,rest_none (List.getElem?_eq_none (by omega))]; rfl)
 have hlt:q < s.length:=by omega
 obtain ⟨c,hc⟩:∃ c,s.getD q 0=c:=⟨_,rfl⟩
 have hsc:s[q]?=some c:=by rw[← hc]; exact getD_at hlt
 have hcn:c.toNat≠34:=fun h=>h34 (by rw[hsc,show c=34 from UInt8.toNat_inj.1 h])
 have hdl:(s.drop q).length=s.length - q:=List.length_drop ..
 simp (disch:=omega) only[push_cast,qE,h0]
 refine drawQT (by kernel_rfl) (by kernel_rfl) mixed (by kernel_rfl) ?_
 simp (disch:=omega) only[push_cast,qE,h0]
 refine lOn Shp.eq mem0 rfl ?_
 simp (disch:=omega) only[push_cast,qE,h0]
 refine lOn Shp.eq mem0 rfl ?_
 simp (disch:=omega) only[push_cast,qE,h0,hc]
 refine forget (fun e=>e 0=pPs rb∧e 3=.slice va bs.length vc∧e 4=.int .u8 c.toNat∧e 47=.bool (decide ((c.toNat:Int)=92))) ⟨h0,h3,rfl,rfl⟩ ?_
 clear h0 h3 e
 rintro e ⟨h0,h3,h4,h47⟩
 rw[Vc]
 simp (disch:=omega) only[push_cast,qE,h47]
 refine cdD (fun h92=>?_) (fun h92=>?_)
 ·have h92':c.toNat=92:=by omega
  rw[rest_esc hsc h92'] at hr
  simp (disch:=omega) only[push_cast,qE,h0]
  refine drawQT (by kernel_rfl) (by kernel_rfl) mixed (by kernel_rfl) ?_
  simp (disch:=omega) only[push_cast,qE,h0]
  refine lOn Shp.eq mem0 rfl ?_
  simp (disch:=omega) only[push_cast,qE,h0]
  refine lOn Shp.eq mem0 rfl ?_
  simp (disch:=omega) only[push_cast,qE,h0,Int.toNat_natCast]
  refine qcallV en_97 (qcallX_is _ (fun w' hw'=>escaped_R w' (s.drop q) (by omega)) ?_)
  rcases hesc:escR (s.drop q) with _|⟨x,n⟩
  ·have ho:escO (s.drop q)=.tuple #[.int .u8 0,i64 0]:=by unfold escO; rw[hesc]
   rw[ho]
   simp (disch:=omega) only[push_cast,qE,h0]
   rw[Vc]
   simp (disch:=omega) only[push_cast,qE,h0]
   refine cdD (fun _=>?_) (fun h=>absurd trivial h)
   simp (disch:=omega) only[push_cast,qE,h0]
   refine lOn Shp.eq mem0 rfl ?_
   simp (disch:=omega) only[push_cast,qE,h0]
   refine callV en_30 (callX_own (fun w' hw'=>failR_ok wb w' rb s q 0 (R++M) 8 q hw') (fun v L' hv=>?_))
   obtain ⟨rfl,rfl⟩:=hv
   refine sp ?_
   exact fail (by rw[hr]; unfold escV; rw[hesc]; rfl)
  ·have ho:escO (s.drop q)=.tuple #[.int .u8 x.toNat,i64 (n:Nat)]:=by unfold escO; rw[hesc]
   obtain ⟨e1,e2,e3,_⟩:=escR_some hesc
   have hn0:0 < n:=by rw[e3]; exact List.length_pos_iff.2 e1
   have hnl:n≤s.length - q:=by rw[e3,← hdl]; exact e2.length_le
   have hv:escV s q=.ok x (q+n):=by unfold escV; rw[hesc]
   rw[ho]
   simp (disch:=omega) only[push_cast,qE,h0]
   rw[Vc]
   simp (disch:=omega) only[push_cast,qE,h0]
   refine cdD (fun h=>absurd h (by omega)) (fun _=>?_)
   simp (disch:=omega) only[push_cast,qE,h3]
   refine bs_54_1 (newI fun b8 hb8 hn8=>?_)
   simp (disch:=omega) only[push_cast,qE,h3]
   refine valX_weak (L':=(b8,Obj.cells #[.int .u8 (x.toNat:Int)] 5 (0,0))::(R++(oRd rb s q 0 0::M))) (fun w hw=>hw.perm (List.Perm.cons _ List.perm_middle.symm)) (appendB (M:=oRd rb s q 0 0::M) [x] un_54 infoU8 (RowO.frame hR) hb8 (by simp; omega) (fun v' L' h'=>?_))
   obtain ⟨R',rfl,hR'⟩:=RowO.unframe h'
   simp (disch:=omega) only[push_cast,qE,h0]
   refine lOn Shp.eq (qR _ (.tail _ (.head _))) rfl ?_
   simp (disch:=omega) only[push_cast,qE,h0]
   refine storeX_weak (L':=oRd rb s q 0 0::(R'++M)) (fun w hw=>(hw.mid R' [_] (fun p hp=>by rw[List.mem_singleton.1 hp]; exact hb8)).perm List.perm_middle) (sXa 0 rfl Siz.eq rfl rfl ?_)
   simp (disch:=omega) only[push_cast,qE,h0]
   refine ⟨q+n,oRd rb s (q+n) 0 0::(R'++M),fun w hw=>(by rw[oRd,Int.natCast_add]; simpa [splice] using hw),⟨rfl,rfl,h0,bs++[x],R',0,0,rfl,hR'.cast (by rw[qA]) (bytesV_append _ _).symm,by simp only[qA,List.length_cons,List.length_nil]; omega,.inl ⟨rfl,rfl,by omega,by simp only[qA,List.length_cons,List.length_nil]; omega,m,by omega,?_⟩⟩,by omega⟩
   rw[hr,hv,PV.and_ok,PV.and_and]
   simp only[PV.and_ok,List.append_assoc,List.singleton_append]
 ·have h92':c.toNat≠92:=by omega
  obtain ⟨n,hn⟩:∃ n,utf8P (s.drop q)=n:=⟨_,rfl⟩
  have hnl:n≤s.length - q:=by rw[← hn,← hdl]; exact utf8_le _ (fun h=>by rw[h] at hdl; simp at hdl; omega)
  simp (disch:=omega) only[push_cast,qE,h0]
  refine drawQT (by kernel_rfl) (by kernel_rfl) mixed (by kernel_rfl) ?_
  simp (disch:=omega) only[push_cast,qE,h0]
  refine lOn Shp.eq mem0 rfl ?_
  simp (disch:=omega) only[push_cast,qE,h0]
  refine lOn Shp.eq mem0 rfl ?_
  simp (disch:=omega) only[push_cast,qE,h0]
  refine qcallV en_98 (qcallX_is (i64 (n:Nat)) (fun w' hw'=>by rw[← hn]; exact utf8_walk w' s q (by omega)) ?_)
  simp (disch:=omega) only[push_cast,qE,h4]
  refine callV en_78 (cIs (fun w' hw'=>escapeR_walk w' c) ?_)
  simp (disch:=omega) only[push_cast,qE,h0]
  have bad:(n=0∨escP c≠[])→quoteV s p=.no 8 q:=fun h=>by rw[hr,rest_bad hsc hcn h92' (by rw[hn]; exact h.symm)]; rfl
  refine gF rfl (fun hn0=>?_) (fun hn0=>?_)
  ·simp (disch:=omega) only[push_cast,qE,h0]
   rw[Vc]
   simp (disch:=omega) only[push_cast,qE,h0]
   refine cdD (fun hne=>?_) (fun he=>?_)
   ·simp (disch:=omega) only[push_cast,qE,h0]
    refine lOn Shp.eq mem0 rfl ?_
    simp (disch:=omega) only[push_cast,qE,h0]
    refine callV en_30 (callX_own (fun w' hw'=>failR_ok wb w' rb s q 0 (R++M) 8 q hw') (fun v L' hv=>?_))
    obtain ⟨rfl,rfl⟩:=hv
    refine sp ?_
    exact fail (bad (.inr hne))
   have hgood:¬ (escP c≠[]∨utf8P (s.drop q)=0):=fun h=>h.elim he (fun h=>hn0 (by omega))
   rw[rest_char hsc hcn h92' hgood,hn] at hr
   simp (disch:=omega) only[push_cast,qE,h0,h3]
   refine freeT [0,1,2,3,4,5,6,7,8,9,10,11,12,13,14,15] [16,17] [oRd rb s q 0 0] (by kernel_rfl) mixed (by kernel_rfl) (stab_one mem0 (hnew q 0 0)) ?_
   simp (disch:=omega) only[push_cast,qE,h0,h3]
   refine lOn Shp.eq mem0 rfl ?_
   simp (disch:=omega) only[push_cast,qE,h0,h3]
   refine lOn Shp.eq mem0 rfl ?_
   simp (disch:=omega) only[push_cast,qE,h0,h3]
   refine lOn Shp.eq mem0 rfl ?_
   have etn:((q:Int)+n).toNat=q+n:=by omega
   simp (disch:=omega) only[push_cast,qE,h0,h3,etn,Int.toNat_natCast]
   have hsl:((s.take (q+n)).drop q)=(s.drop q).take n:=by rw[List.drop_take,show q+n - q=n by omega]
   rw[hsl]
   have hsll:((s.drop q).take n).length=n:=by rw[List.length_take,hdl]; omega
   refine valX_weak (L':=R++(oRd rb s q 0 0::M)) (fun w hw=>hw.perm List.perm_middle.symm) (appendS (M:=oRd rb s q 0 0::M) ((s.drop q).take n) un_54 Tryz.underlying9 infoU8 (RowO.frame hR) (by rw[hsll]; omega) (fun v' L' h'=>?_))
   obtain ⟨R',rfl,hR'⟩:=RowO.unframe h'
   have hn2:∀ b∈R'++(oRd rb s q 0 0::M),wb.heap.size≤b.1:=(nA (hR'.new (by simp)) (nC hrb hM))
   simp (disch:=omega) only[push_cast,qE,h0]
   refine ⟨stab_one (qR _ (.head _)) hn2,stab_one (qR _ (.head _)) hn2,?_⟩
   try simp (disch:=omega) only[push_cast,qE,h0]
   refine lOn Shp.eq (qR _ (.head _)) rfl ?_
   simp (disch:=omega) only[push_cast,qE,h0]
   refine storeX_weak (L':=oRd rb s q 0 0::(R'++M)) (fun w hw=>hw.perm List.perm_middle) (sXa 0 rfl Siz.eq rfl rfl ?_)
   simp (disch:=omega) only[push_cast,qE,h0]
   refine ⟨q+n,oRd rb s (q+n) 0 0::(R'++M),fun w hw=>(by rw[oRd,Int.natCast_add]; simpa [splice] using hw),⟨rfl,rfl,h0,bs++(s.drop q).take n,R',0,0,rfl,hR'.cast (by rw[qA]) (bytesV_append _ _).symm,by rw[qA,hsll]; omega,.inl ⟨rfl,rfl,by omega,by rw[qA,hsll]; omega,m,by omega,?_⟩⟩,by omega⟩
   rw[hr,PV.and_and]
   simp only[PV.and_ok,List.append_assoc]
  ·simp (disch:=omega) only[push_cast,qE,h0]
   rw[Vc]
   simp (disch:=omega) only[push_cast,qE,h0]
   refine lOn Shp.eq mem0 rfl ?_
   simp (disch:=omega) only[push_cast,qE,h0]
   refine callV en_30 (callX_own (fun w' hw'=>failR_ok wb w' rb s q 0 (R++M) 8 q hw') (fun v L' hv=>?_))
   obtain ⟨rfl,rfl⟩:=hv
   refine sp ?_
   exact fail (bad (.inl (by omega)))
end Go.Proofs.YtilejcofleeeiaaGreatDoor
