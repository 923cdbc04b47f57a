/- YtilejcofleeeiaaGreatDoor: walks, part 228: a parser of values: what it owns, how its functions end; bytes, signs, rows, digits. -/
import Derived.Test.YtilejcofleeeiaaGreatDoorW215
import Derived.Test.YtilejcofleeeiaaGreatDoorW226
import Derived.Defers
import Derived.Recover
namespace Go.Proofs.YtilejcofleeeiaaGreatDoor
open Go Go.K
open Nat renaming reduceEqDiff → qE
open List renaming length_cons → qN, length_append → qA, length_nil → qO
set_option maxRecDepth 100000
set_option linter.unusedVariables false
set_option linter.unusedSimpArgs false
def PV.place {α:Type}:PV α→Nat
 | .no _ p=>p
 | .ok _ p=>p
def PV.err {α:Type}:PV α→Int
 | .no e _=>e
 | .ok _ _=>8
def Within {α:Type} (s:List UInt8) (q:Nat) (r:PV α):Prop:=q≤r.place∧r.place≤s.length∧r.err≠0
theorem Within.and {α β:Type} {s:List UInt8} {q:Nat} {r:PV α} {f:α→Nat→PV β} (h:Within s q r) (hf:∀ x p,r=.ok x p→p≤s.length→Within s p (f x p)):Within s q (r.and f):=by
 cases r with
 | no e p=>exact h
 | ok x p =>
  have h1:=hf x p rfl h.2.1
  exact ⟨Nat.le_trans h.1 h1.1,h1.2⟩
theorem within_no {α:Type} {s:List UInt8} {q:Nat} (e:Int) (h:q≤s.length) (he:e≠0:=by decide):Within s q (.no e q:PV α):=⟨Nat.le_refl _,h,he⟩
theorem within_ok {α:Type} {s:List UInt8} {q p:Nat} (x:α) (h1:q≤p) (h:p≤s.length):Within s q (.ok x p):=⟨h1,h,(show (8:Int)≠0 by decide)⟩
theorem must_in (s t:List UInt8) {q:Nat} (hq:q≤s.length):Within s q (mustV s t q):=by
 unfold mustV
 split
 ·rename_i h
  have:=(List.isPrefixOf_iff_prefix.1 h).length_le
  rw[List.length_drop] at this
  exact within_ok _ (Nat.le_add_right _ _) (by omega)
 ·exact within_no _ hq
theorem rest_in (s:List UInt8):∀ (m q:Nat),q≤s.length→Within s q (restV s m q)
 | 0,q,hq=>within_no _ hq
 | m+1,q,hq=>by
  rw[restV]
  cases hc:s[q]? with
  | none=>exact within_no _ hq
  | some c =>
   have hlt:=(List.getElem?_eq_some_iff.1 hc).1
   have hne:s.drop q≠[]:=fun e=>by rw[List.drop_eq_nil_iff] at e; omega
   simp only
   split
   ·exact within_ok _ (Nat.le_succ _) (by omega)
   ·split
    ·cases he:escR (s.drop q) with
     | none=>exact within_no _ hq
     | some p =>
      obtain ⟨x,n⟩:=p
      obtain ⟨_,h2,h3,_⟩:=escR_some he
      have h4:=h2.length_le
      rw[List.length_drop] at h4
      have h5:=rest_in s m (q+n) (by omega)
      have h6:Within s q (restV s m (q+n)):=⟨Nat.le_trans (Nat.le_add_right _ _) h5.1,h5.2⟩
      exact h6.and fun l p _ hp=>within_ok _ (Nat.le_refl _) hp
    ·split
     ·exact within_no _ hq
     ·have h4:=utf8_le _ hne
      rw[List.length_drop] at h4
      have h5:=rest_in s m (q+utf8P (s.drop q)) (by omega)
      have h6:Within s q (restV s m (q+utf8P (s.drop q))):=⟨Nat.le_trans (Nat.le_add_right _ _) h5.1,h5.2⟩
      exact h6.and fun l p _ hp=>within_ok _ (Nat.le_refl _) hp
theorem quote_in (s:List UInt8) {q:Nat} (hq:q≤s.length):Within s q (quoteV s q):=(must_in s [34] hq).and fun _ p _ hp=>rest_in s _ p hp
theorem digAt_in (s:List UInt8) {q:Nat} (hq:q≤s.length):Within s q (digAt s q):=by
 unfold digAt
 split
 ·exact within_no _ hq
 ·rename_i d hd
  obtain ⟨c,hc,_⟩:=Option.bind_eq_some_iff.1 hd
  have:=(List.getElem?_eq_some_iff.1 hc).1
  exact within_ok _ (Nat.le_succ _) (by omega)
theorem hex_in (s:List UInt8):∀ (m q:Nat),q≤s.length→Within s q (hexV s m q)
 | 0,q,hq=>within_no _ hq
 | m+1,q,hq=>by
  rw[hexV]
  split
  ·rename_i hc
   have:=(List.getElem?_eq_some_iff.1 hc).1
   exact within_ok _ (Nat.le_succ _) (by omega)
  ·exact (digAt_in s hq).and fun a p _ hp=>(digAt_in s hp).and fun b p2 _ hp2=>(hex_in s m p2 hp2).and fun l p3 _ hp3=>within_ok _ (Nat.le_refl _) hp3
theorem raw_in (s:List UInt8) {q:Nat} (hq:q≤s.length):Within s q (rawV s q):=(must_in s [120,34] hq).and fun _ p _ hp=>hex_in s _ p hp
theorem items_in (s:List UInt8) (k wd:Int) (R:Nat→PV Vl) (hR:∀ q,q≤s.length→Within s q (R q)):∀ (m i q:Nat),q≤s.length→Within s q (itemsV s k wd R m i q)
 | 0,i,q,hq=>within_no _ hq
 | m+1,i,q,hq=>by
  rw[itemsV]
  split
  ·exact (must_in s [93] hq).and fun _ p _ hp=>within_ok _ (Nat.le_refl _) hp
  ·split
   ·rename_i hc
    have:=(List.getElem?_eq_some_iff.1 hc.2).1
    exact within_ok _ (Nat.le_succ _) (by omega)
   ·refine Within.and ?_ fun _ p _ hp=>?_
    ·split
     ·exact within_ok _ (Nat.le_refl _) hq
     ·exact must_in s [44] hq
    ·split
     ·exact within_no _ hp
     ·exact (hR p hp).and fun v p2 _ hp2=>(items_in s k wd R hR m (i+1) p2 hp2).and fun l p3 _ hp3=>within_ok _ (Nat.le_refl _) hp3
theorem kids_in (s:List UInt8) (R:Fld→Nat→PV Vl):∀ (l:List Fld) (b:Bool) (q:Nat),(∀ g∈l,∀ q,q≤s.length→Within s q (R g q))→q≤s.length→Within s q (kidsV s R b l q)
 | [],b,q,hR,hq=>by
  rw[kidsV]
  exact (must_in s [125] hq).and fun _ p _ hp=>within_ok _ (Nat.le_refl _) hp
 | g::l,b,q,hR,hq=>by
  rw[kidsV]
  refine Within.and ?_ fun _ p _ hp=>?_
  ·split
   ·exact within_ok _ (Nat.le_refl _) hq
   ·exact must_in s [44] hq
  ·exact (must_in s _ hp).and fun _ p2 _ hp2=>(hR g (.head _) p2 hp2).and fun v p3 _ hp3=>(kids_in s R l false p3 (fun g hg=>hR g (.tail _ hg)) hp3).and fun vs p4 _ hp4=>within_ok _ (Nat.le_refl _) hp4
theorem choice_in (s:List UInt8) (R:Fld→Nat→PV Vl) (l:List Fld) (q:Nat) (hR:∀ g∈l,∀ q,q≤s.length→Within s q (R g q)) (hq:q≤s.length):Within s q (choiceV s R l q):=by
 unfold choiceV
 split
 ·rename_i i g hi hg
  have h1:=must_in s [40] (runP_le (f:=nameB) hq)
  have h2:Within s q (mustV s [40] (runP nameB s q)):=⟨Nat.le_trans (runP_ge _ _ _) h1.1,h1.2⟩
  exact h2.and fun _ p _ hp=>(hR g (List.mem_of_find?_eq_some hg) p hp).and fun v p2 _ hp2=>(must_in s [41] hp2).and fun _ p3 _ hp3=>within_ok _ (Nat.le_refl _) hp3
 ·exact within_no _ hq
theorem read_in (s:List UInt8):∀ (d:Nat) (f:Fld) (q:Nat),q≤s.length→Within s q (readV s d f q)
 | 0,f,q,hq=>within_no _ hq
 | d+1,f,q,hq=>by
  rw[readV]
  split
  ·rename_i hn
   have hp:nullT <+: s.drop q:=by rw[← hn.2.1]; exact List.takeWhile_prefix _
   have:=hp.length_le
   rw[List.length_drop] at this
   have h4:nullT.length=4:=rfl
   exact within_ok _ (Nat.le_add_right _ _) (by omega)
  ·split
   ·split
    ·exact read_in s d _ q hq
    ·exact within_no _ hq
   ·split
    ·exact (quote_in s hq).and fun _ p _ hp=>within_ok _ (Nat.le_refl _) hp
    ·split
     ·exact (raw_in s hq).and fun _ p _ hp=>within_ok _ (Nat.le_refl _) hp
     ·split
      ·cases hr:rawV s q with
       | no e p=>have:=raw_in s hq; rw[hr] at this; exact this
       | ok t p =>
        have:=raw_in s hq
        rw[hr] at this
        rw[PV.and_ok]
        split
        ·exact this
        ·exact within_no _ hq
      ·split
       ·exact (must_in s [91] hq).and fun _ p _ hp=>(items_in s _ _ _ (fun q hq=>by
         split
         ·exact read_in s d _ q hq
         ·exact within_no _ hq) _ _ p hp).and fun _ p2 _ hp2=>within_ok _ (Nat.le_refl _) hp2
       ·split
        ·exact (must_in s [123] hq).and fun _ p _ hp=>(kids_in s _ f.sub true p (fun g _ q hq=>read_in s d g q hq) hp).and fun _ p2 _ hp2=>within_ok _ (Nat.le_refl _) hp2
        ·split
         ·exact choice_in s _ f.sub q (fun g _ q hq=>read_in s d g q hq) hq
         ·split
          ·exact within_ok _ (runP_ge _ _ _) (runP_le hq)
          ·exact within_no _ hq
theorem items_heavy {f:Fld} {T:Fld→Vl→List UInt8}:∀ (l:List Vl) (i:Nat),(∀ (j:Nat) (x:Vl),l[j]?=some x→∃ g,f.sub[childN f (i+j)]?=some g∧wV x≤17 * (T g x).length)→wL l≤17 * (itemsT f T i l).length
 | [],i,h=>by simp[wL]
 | x::l,i,h=>by
  obtain ⟨g,hg,h1⟩:=h 0 x rfl
  rw[Nat.add_zero] at hg
  have h2:=items_heavy (T:=T) l (i+1) (fun j y hj=>by rw[show i+1+j=i+(j+1) by omega]; exact h (j+1) y (un hj))
  rw[itemsT,wL,qA]
  have h3:(T g x).length≤(itemT f T i x).length:=by
   unfold itemT
   rw[hg]
   simp only[qA]
   omega
  omega
theorem show_heavy:∀ (d:Nat) (ind:Bool) (f:Fld) (v:Vl),okT d ind f→fitD d f v=true→wV v≤17 * (showV d f v).length
 | 0,ind,f,v,hok,_=>hok.elim
 | d+1,ind,f,v,hok,hf=>by
  have hwe:=wV_eq v
  obtain ⟨c0,r0,e0,_⟩:=show_head (d+1) ind f v hok hf
  have hpos:1≤(showV (d+1) f v).length:=by rw[e0]; simp
  have empty:v.tx=[]→v.ls.length=0→wV v≤17 * (showV (d+1) f v).length:=fun h1 h2=>by
   have h3:v.ls=[]:=List.eq_nil_of_length_eq_zero h2
   rw[hwe,h1,h3]
   simp only[qO,wL]
   omega
  have hf':=hf
  rw[fitD] at hf'
  have hf':=(Bool.and_eq_true_iff.1 hf').2
  by_cases hnu:v.nu=true
  ·rw[if_pos hnu] at hf'
   simp only[Bool.and_eq_true,decide_eq_true_eq] at hf'
   exact empty hf'.2.1 hf'.2.2.1
  have hnf:v.nu=false:=by simpa using hnu
  rw[if_neg hnu] at hf'
  by_cases hA:f.k=19∨f.k=20
  ·obtain ⟨g,hsub⟩:=wrap_len hok.1.1 hA
   have hg:f.sub[0]?=some g:=by rw[hsub]; rfl
   rw[showV,if_neg hnu,if_pos hA,hg]
   exact show_heavy d _ g v (hok.2 g (List.mem_of_getElem? hg)) (fit_wrap hnf hA hg hf)
  rw[if_neg hA] at hf'
  by_cases h18:f.k=18
  ·obtain ⟨g,z,hg,hz,hl,_,_,hgz⟩:=fit_union hnf h18 hf
   rw[if_pos h18] at hf'
   simp only[Bool.and_eq_true,decide_eq_true_eq] at hf'
   have h1:=show_heavy d _ g z (hok.2 g (List.mem_of_getElem? hg)) hgz
   have e2:v.ls=[z]:=by
    obtain ⟨c,hc⟩:=List.length_eq_one_iff.1 hl
    rw[hc] at hz ⊢
    exact congrArg (fun u=>[u]) (Option.some.inj hz)
   rw[showV,if_neg hnu,if_neg hA,if_neg (by omega),if_neg (by omega),if_pos h18,hg,hz,hwe,e2,hf'.1]
   simp only[qA,qN,qO,wL]
   omega
  rw[if_neg h18] at hf'
  by_cases h15:f.k=15∨f.k=16∨f.k=17
  ·obtain ⟨_,_,_,ftx,fall⟩:=fit_list hnf h15 hf
   have h1:=items_heavy (f:=f) (T:=showV d) v.ls 0 (fun j x hj=>by
    obtain ⟨g,hg,hgx⟩:=fall j x hj
    exact ⟨g,by rw[Nat.zero_add]; exact hg,show_heavy d _ g x (hok.2 g (List.mem_of_getElem? hg)) hgx⟩)
   rw[showV,if_neg hnu,if_neg hA,if_neg (by omega),if_neg (by omega),if_neg h18,if_pos h15,hwe,ftx]
   simp only[qA,qN,qO]
   omega
  rw[if_neg h15] at hf'
  by_cases h12:f.k=12∨f.k=13∨f.k=14
  ·rw[if_pos h12] at hf'
   simp only[Bool.and_eq_true,decide_eq_true_eq] at hf'
   have h3:v.ls=[]:=List.eq_nil_of_length_eq_zero hf'.2.1
   have q1:∀ l:List UInt8,l.length≤(l.flatMap charT).length:=fun l=>by
    induction l with
    | nil=>simp
    | cons c l ih=>rw[List.flatMap_cons,qA,qN]; have:=(char_len c).1; omega
   have q2:∀ l:List UInt8,l.length≤(l.flatMap byteT).length:=fun l=>by
    induction l with
    | nil=>simp
    | cons c l ih=>rw[List.flatMap_cons,qA,qN]; show _≤2+_; omega
   have:=q1 v.tx
   have:=q2 v.tx
   rw[showV,if_neg hnu,if_neg hA,hwe,h3]
   by_cases k12:f.k=12
   ·rw[if_pos k12]
    simp only[textT,qA,qN,qO,wL]
    omega
   ·rw[if_neg k12,if_pos (by omega)]
    simp only[bytesT,qA,qN,qO,wL]
    omega
  rw[if_neg h12] at hf'
  simp only[Bool.and_eq_true,decide_eq_true_eq] at hf'
  exact empty hf'.1 hf'.2.1
/-! There and back. -/
theorem fitsP_zero {f:Fld} {v:Vl} (h:fitsP f v=0):mayD f=true∧fitD 64 f v=true∧wV v≤4194304:=by
 unfold fitsP at h
 split at h
 ·rename_i hm
  split at h
  ·rename_i hg
   unfold goodD at hg
   simp only[Bool.and_eq_true,decide_eq_true_eq] at hg
   exact ⟨hm,hg.1,by omega⟩
  ·cases h
 ·cases h
theorem parse_print {f:Fld} {s:List UInt8} {x:Vl} {a:Nat} (h:parseVP f s=(x,0,a)):printP f x=(s,0)∧fitsP f x=0:=by
 unfold parseVP at h
 split at h
 ·exact absurd (congrArg (fun t=>t.2.1) h) (show (5:Int)≠0 by decide)
 rename_i hm
 split at h
 ·exact absurd (congrArg (fun t=>t.2.1) h) (show (4:Int)≠0 by decide)
 rename_i hs
 have hm:mayD f=true:=by simpa using hm
 split at h
 ·rename_i e q hr
  have he:e=0:=congrArg (fun t=>t.2.1) h
  have h5:=(read_in s 64 f 0 (Nat.zero_le _)).2.2
  rw[hr] at h5
  exact absurd he h5
 ·rename_i v q hr
  split at h
  ·exact absurd (congrArg (fun t=>t.2.1) h) (show (8:Int)≠0 by decide)
  rename_i hq
  have hx:v=x:=congrArg (fun t=>t.1) h
  subst hx
  have hok:=may_okT hm
  obtain ⟨w1,w2,_⟩:=read_wrote s 64 false f hok 0 v q hr
  have hd:s.drop q=[]:=List.drop_eq_nil_iff.2 (by omega)
  rw[hd,List.append_nil,List.drop_zero] at w1
  have hh:=show_heavy 64 false f v hok w2
  have hfit:fitsP f v=0:=by
   unfold fitsP goodD
   rw[if_pos hm,w2,if_pos]
   rw[Bool.true_and,decide_eq_true_eq]
   rw[← w1] at hh
   omega
  refine ⟨?_,hfit⟩
  unfold printP
  rw[if_neg (by rw[hfit]; decide),← w1,if_neg hs]
set_option maxHeartbeats 4000000
theorem VAt.rng {w:World} {lo:Nat}:∀ (d:Nat) {v:Vl} {a:Option Addr} {c:Nat},VAt w lo v a c→rngD d v
 | 0,_,_,_,_=>trivial
 | d+1,v,a,c,h=>⟨h.hn,fun x hx=>by
  obtain ⟨i,hi⟩:=List.mem_iff_getElem?.1 hx
  obtain ⟨_,_,_,_,_,_,_,h4⟩:=h.get hi
  exact VAt.rng d h4⟩
theorem print_walk (w:World) (hs:SaysAt w) (lo:Nat) (hTb:TabsAt w) (hl:LibV w) (hlo:lo≤w.heap.size) (f:Fld) (v:Vl) (a va:Option Addr) (c vc:Nat) (hA:FlAt w lo f a c) (hfn:f.nm.length≤9223372036854775807) (hV:VAt w lo v va vc) :
 Calls Tryz.prog 7 #[.agg (f.cells a c).toArray,.agg (v.cells va vc).toArray] w (Rets w (Is (.tuple #[str (printP f v).1,i64 (printP f v).2]))):=by
 refine enterT (args:=[.agg (f.cells a c).toArray,.agg (v.cells va vc).toArray]) Tryz.func7 rfl Tryz.ntmps7 (congrArg Array.toList Tryz.results7) (by kernel_rfl) (by simp) (Sy.refl w) ?_
 simp (disch:=omega) only[push_cast,qE,Fld.cells,Vl.cells]
 refine newI (fun b2 hb2 hn2=>?_)
 simp (disch:=omega) only[push_cast,qE,Fld.cells,Vl.cells]
 refine newI (fun b3 hb3 hn3=>?_)
 simp (disch:=omega) only[push_cast,qE,Fld.cells,Vl.cells]
 rw[Vb]
 simp (disch:=omega) only[push_cast,qE,Fld.cells,Vl.cells]
 have hL:∀ x y:Obj,∀ p∈[(b3,x),(b2,y)],w.heap.size≤p.1:=fun x y p hp=>by
  simp only[List.mem_cons,List.mem_nil_iff,or_false] at hp
  rcases hp with rfl|rfl
  ·exact hb3
  ·exact hb2
 refine lAg Shp.eq mem1 rfl rfl ?_
 refine sp ?_
 refine callV en_21 (cIs (fun w' hw'=>may_walk w' (hs.mono hw' (hL _ _)) lo (Nat.le_trans hlo hw'.size) f a c (hA.sy hlo hw' (hL _ _)) hfn) ?_)
 refine sp ?_
 rw[Vc]
 refine sp ?_
 refine cdB (fun hm=>?_) (fun hm=>?_)
 ·refine sp ?_
  rw[Bool.not_eq_true'] at hm
  have hf:fitsP f v=5:=by unfold fitsP; rw[hm]; rfl
  exact finIs (hL _ _) (by unfold printP; rw[hf]; rfl)
 rw[Bool.not_eq_false'] at hm
 refine sp ?_
 refine lAg Shp.eq mem1 rfl rfl ?_
 refine sp ?_
 refine lAg Shp.eq mem0 rfl rfl ?_
 refine sp ?_
 refine callV en_22 (cIs (fun w' hw'=>good_walk w' lo (hTb.mono hw' (hL _ _)) (Nat.le_trans hlo hw'.size) f v a va c vc (mayD_okD hm) (hA.sy hlo hw' (hL _ _)) (hV.sy hlo hw' (hL _ _))) ?_)
 refine sp ?_
 rw[Vc]
 refine sp ?_
 refine cdB (fun hg=>?_) (fun hg=>?_)
 ·refine sp ?_
  rw[Bool.not_eq_true'] at hg
  have hf:fitsP f v=7:=by unfold fitsP; rw[hm,hg]; rfl
  exact finIs (hL _ _) (by unfold printP; rw[hf]; rfl)
 rw[Bool.not_eq_false'] at hg
 have hf:fitsP f v=0:=by unfold fitsP; rw[hm,hg]; rfl
 obtain ⟨_,hfit,hwv⟩:=fitsP_zero hf
 refine sp ?_
 refine newI (fun b6 hb6 hn6=>?_)
 refine sp ?_
 refine lAg Shp.eq mem2 rfl rfl ?_
 refine sp ?_
 refine lAg Shp.eq mem1 rfl rfl ?_
 refine sp ?_
 obtain ⟨M,hM⟩:∃ M:Own,M=[(qb3 b3 v.nu v.num v.tx va v.ls.length vc),(qb0 b2 f a c)]:=⟨_,rfl⟩
 have hMn:∀ p∈M,w.heap.size≤p.1:=by rw[hM]; exact hL _ _
 have hB:BlO w 58 b6 [] (oBl 58 b6 (.pointer none) (.slice none 0 0)::M) M:=⟨_,_,.inl rfl,⟨rfl,.inl ⟨rfl,rfl,rfl⟩⟩,fun _=>rfl,hb6⟩
 refine callV en_23 (callX_weak (L':=oBl 58 b6 (.pointer none) (.slice none 0 0)::M) (by rw[hM]; exact fun w hw=>hw) (callX_own (fun w' hw'=>print_all 64 w w' lo b6 [] _ M false f v a va c vc hl hlo (may_okT hm) hfit (hV.rng 64) hA hV hB hMn (by simp only[qO]; omega) hw') (fun v' L4 hv4=>?_)))
 obtain ⟨rfl,bs,hB4,hc4,hn4⟩:=hv4
 refine sp ?_
 refine callV en_24 (cIs (fun w' hw'=>len_walk w w' _ b6 bs L4 M hB4 hw') ?_)
 refine sp ?_
 rw[Vc]
 refine sp ?_
 refine cdD (fun hbig=>?_) (fun hbig=>?_)
 ·refine sp ?_
  refine finIs (hB4.new hMn) ?_
  have h2:65536 < (showV 64 f v).length:=by
   rcases hc4 with rfl|⟨_,h2⟩
   ·rw[List.nil_append] at hbig; omega
   ·simpa using h2
  unfold printP
  rw[if_neg (by rw[hf]; decide),if_pos h2]
 refine sp ?_
 obtain rfl:bs=showV 64 f v:=by
  rcases hc4 with h|⟨h1,_⟩
  ·simpa using h
  ·omega
 refine callV en_25 (callX_own (fun w' hw'=>string_walk w w' _ b6 _ L4 M hB4 hw') (fun v' L5 hv5=>?_))
 obtain ⟨rfl,rfl⟩:=hv5
 refine sp ?_
 refine finIs hMn ?_
 unfold printP
 rw[if_neg (by rw[hf]; decide),if_neg (by omega)]
end Go.Proofs.YtilejcofleeeiaaGreatDoor
namespace Go.K
open Go
open Nat renaming reduceEqDiff → qE
open List renaming length_cons → qN, length_append → qA, length_nil → qO
variable {P:Program} {wb:World} {L:Own} {Kp:KP}
theorem callX_pan {f:FuncId} {args:Array Value} {S:Value→Own→Prop} {SP:List PanicEntry→Own→Prop} {K:Value→World→Own→Prop} (h:∀ w,Sy wb L w→Calls P f args w (fun e w'=>(∃ v L',e=.returned v∧Sy wb L' w'∧S v L')∨(∃ ch L',e=.panicked ch∧Sy wb L' w'∧SP ch L')))
 (hk:∀ v L',S v L'→K v wb L') (hp:∀ ch L',SP ch L'→Kp ch wb L'):CallX P f args wb L (tag K) (tag Kp):=fun w hw =>
 (h w hw).mono fun e w' hx=>by
  rcases hx with ⟨v,L',rfl,hs,hv⟩|⟨ch,L',rfl,hs,hv⟩
  ·exact ⟨wb,L',hs,hk v L' hv⟩
  ·exact ⟨wb,L',hs,hp ch L' hv⟩
def retD (P:Program) (rs:List ResultVar) {R:Ending→World→Prop} (_:Tag R):Post
 | .ret,wb,e,ds,L | .normal,wb,e,ds,L =>
  (ds=[]∧ResL P wb L e rs fun vs=>∀ w,Sy wb L w→R (.returned (tup vs)) w) ∨
  (∃ (g:FuncId) (cap:Array Value),ds=[{ target:=.fn (.func g) cap,args:=#[] }]∧entersB P g=true ∧
   ∀ w,Sy wb L w→CallsD P g cap .returning w fun e' u' w'=>e'=.returned (.tuple #[])∧u'=.returning∧∃ L',Sy wb L' w'∧ResL P wb L' e rs fun vs=>∀ w,Sy wb L' w→R (.returned (tup vs)) w)
 | .panic ch,wb,e,ds,L =>
  (ds=[]∧∀ w,Sy wb L w→R (.panicked ch) w) ∨
  (∃ (g:FuncId) (cap:Array Value),ds=[{ target:=.fn (.func g) cap,args:=#[] }]∧entersB P g=true ∧
   ∀ w,Sy wb L w→CallsD P g cap (.panicking ch) w fun e' u' w'=>e'=.returned (.tuple #[])∧settle u'=.returning∧∃ L',Sy wb L' w'∧ResL P wb L' e rs fun vs=>∀ w,Sy wb L' w→R (.returned (tup vs)) w)
 | _,_,_,_,_=>False
@[push_cast] theorem retD_ret {rs:List ResultVar} {R:Ending→World→Prop} {e:Env} {ds:List Deferred}:retD P rs (tag R) .ret wb e ds L=((ds=[]∧ResL P wb L e rs fun vs=>∀ w,Sy wb L w→R (.returned (tup vs)) w) ∨
 (∃ (g:FuncId) (cap:Array Value),ds=[{ target:=.fn (.func g) cap,args:=#[] }]∧entersB P g=true ∧
  ∀ w,Sy wb L w→CallsD P g cap .returning w fun e' u' w'=>e'=.returned (.tuple #[])∧u'=.returning∧∃ L',Sy wb L' w'∧ResL P wb L' e rs fun vs=>∀ w,Sy wb L' w→R (.returned (tup vs)) w)):=(rfl)
@[push_cast] theorem retD_normal {rs:List ResultVar} {R:Ending→World→Prop} {e:Env} {ds:List Deferred}:retD P rs (tag R) .normal wb e ds L=((ds=[]∧ResL P wb L e rs fun vs=>∀ w,Sy wb L w→R (.returned (tup vs)) w) ∨
 (∃ (g:FuncId) (cap:Array Value),ds=[{ target:=.fn (.func g) cap,args:=#[] }]∧entersB P g=true ∧
  ∀ w,Sy wb L w→CallsD P g cap .returning w fun e' u' w'=>e'=.returned (.tuple #[])∧u'=.returning∧∃ L',Sy wb L' w'∧ResL P wb L' e rs fun vs=>∀ w,Sy wb L' w→R (.returned (tup vs)) w)):=(rfl)
@[push_cast] theorem retD_panic {rs:List ResultVar} {R:Ending→World→Prop} {e:Env} {ds:List Deferred} (ch:List PanicEntry):retD P rs (tag R) (.panic ch) wb e ds L=((ds=[]∧∀ w,Sy wb L w→R (.panicked ch) w) ∨
 (∃ (g:FuncId) (cap:Array Value),ds=[{ target:=.fn (.func g) cap,args:=#[] }]∧entersB P g=true ∧
  ∀ w,Sy wb L w→CallsD P g cap (.panicking ch) w fun e' u' w'=>e'=.returned (.tuple #[])∧settle u'=.returning∧∃ L',Sy wb L' w'∧ResL P wb L' e rs fun vs=>∀ w,Sy wb L' w→R (.returned (tup vs)) w)):=(rfl)
theorem enterD {f:FuncId} {fn:Func} {code:Code} {args:List Value} {w:World} {R:Ending→World→Prop} (hf:P.funcs[f]?=some fn) (hb:fn.body=some code) {rs:List ResultVar} {n:Nat} (hn:fn.ntmps=n) (hrs:fn.results.toList=rs) (hok:okCode n code=true) (hsz:args.length≤n)
 (hL:Sy wb L w) (h:VT ⟨P,n,none⟩ (tag code) (tag (retD P rs (tag R))) wb (env0 args) [] L):Calls P f args.toArray w R:=by
 subst hn
 refine calls_of_wp_defers hf hb ((wpIn_wide (n:=0)).1 (wpIn_mono (V_sound (c:=⟨P,fn.ntmps,none⟩) code _ wb _ [] L hok h { tmps:=args.toArray++Array.replicate (fn.ntmps - args.toArray.size) undef,defers:=[] } w (rep0 hsz) hL) ?_))
 have hret:∀ (a:Act) (w':World) (wb':World) (e':Env) (ds':List Deferred) (L':Own),Rep fn.ntmps a e' ds'→Sy wb' L' w'→retD P rs (tag R) .ret wb' e' ds' L'→Leaves P fn a.tmps R a.defers .returning w':=by
  intro a w' wb' e' ds' L' hr' hw' hq
  have hr0:Rep fn.ntmps { tmps:=a.tmps,defers:=[] } e' []:=⟨hr'.size,hr'.get,rfl⟩
  rcases hq with ⟨hd,hq⟩|⟨g,cap,hd,hg,hq⟩
  ·rw[hr'.defers,hd]
   obtain ⟨vs,hk,hrun⟩:=results_run (fn:=fn) hr0 hw' (by rw[hrs]; exact hq)
   exact ⟨_,hrun,hk w' hw'⟩
  ·rw[hr'.defers,hd]
   refine leaves_cons (f:=g) (args:=cap) (by simp) (by simpa [invoke] using enters_run hg cap w') ((hq w' hw').mono ?_)
   rintro e'' u' w'' ⟨rfl,rfl,L'',hs,hq2⟩
   obtain ⟨vs,hk,hrun⟩:=results_run (fn:=fn) hr0 hs (by rw[hrs]; exact hq2)
   exact ⟨_,hrun,hk w'' hs⟩
 rintro x a w' ⟨wb',e',ds',L',hr',hw',hq⟩
 cases x with
 | normal=>exact hret a w' wb' e' ds' L' hr' hw' hq
 | ret=>exact hret a w' wb' e' ds' L' hr' hw' hq
 | panic ch =>
  have hr0:Rep fn.ntmps { tmps:=a.tmps,defers:=[] } e' []:=⟨hr'.size,hr'.get,rfl⟩
  show Leaves P fn a.tmps R a.defers (.panicking ch) w'
  rcases hq with ⟨hd,hq⟩|⟨g,cap,hd,hg,hq⟩
  ·rw[hr'.defers,hd]
   exact hq w' hw'
  ·rw[hr'.defers,hd]
   refine leaves_cons (f:=g) (args:=cap) (by simp) (by simpa [invoke] using enters_run hg cap w') ((hq w' hw').mono ?_)
   rintro e'' u' w'' ⟨rfl,hu,L'',hs,hq2⟩
   show Leaves P fn a.tmps R [] (settle u') w''
   rw[hu]
   obtain ⟨vs,hk,hrun⟩:=results_run (fn:=fn) hr0 hs (by rw[hrs]; exact hq2)
   exact ⟨_,hrun,hk w'' hs⟩
 | exit id=>exact hq.elim
 | goto l=>exact hq.elim
 | outgrown=>exact hq.elim
end Go.K
namespace Go.Proofs.YtilejcofleeeiaaGreatDoor
open Go Go.K
open Nat renaming reduceEqDiff → qE
open List renaming length_cons → qN, length_append → qA, length_nil → qO
set_option maxRecDepth 100000
set_option linter.unusedVariables false
set_option linter.unusedSimpArgs false
set_option maxHeartbeats 4000000
abbrev oPs (pb:Nat) (s:List UInt8) (p:Nat):Nat×Obj:=(pb,Obj.cells #[str s,i64 p] 74 (0,0))
abbrev pPs (pb:Nat):Value:=.pointer (some ⟨pb,0,none⟩)
abbrev wrongE (e:Int) (q:Nat):PanicEntry:={ v:=.iface 70 (.agg #[i64 e,i64 q]),recovered:=false }
def PVR {α:Type} (wb:World) (pb:Nat) (s:List UInt8) (M:Own) (r:PV α) (S:α→Value→Own→Prop) (e:Ending) (w':World):Prop :=
 match r with
 | .ok x q=>∃ (v:Value) (K:Own),e=.returned v∧q≤s.length∧S x v K∧(∀ b∈K,wb.heap.size≤b.1)∧Sy wb (oPs pb s q::(K++M)) w'
 | .no er q=>∃ K:Own,e=.panicked [wrongE er q]∧(∀ b∈K,wb.heap.size≤b.1)∧Sy wb (K++M) w'
theorem PVR.leaf {α:Type} {wb w':World} {pb:Nat} {s:List UInt8} {M:Own} {r:PV α} {S:α→Value→Own→Prop} {x:α} {q:Nat} (v:Value) (K:Own) (hr:r=.ok x q) (h2:q≤s.length) (h3:S x v K) (h4:∀ b∈K,wb.heap.size≤b.1) (h5:Sy wb (oPs pb s q::(K++M)) w'):PVR wb pb s M r S (.returned v) w':=by
 rw[hr]
 exact ⟨v,K,rfl,h2,h3,h4,h5⟩
theorem PVR.fall {α:Type} {wb w':World} {pb:Nat} {s:List UInt8} {M:Own} {r:PV α} {S:α→Value→Own→Prop} {er:Int} {q:Nat} (K:Own) (hr:r=.no er q) (h4:∀ b∈K,wb.heap.size≤b.1) (h5:Sy wb (K++M) w'):PVR wb pb s M r S (.panicked [wrongE er q]) w':=by
 rw[hr]
 exact ⟨K,rfl,h4,h5⟩
theorem callX_pv {P:Program} {α:Type} {wb:World} {L M:Own} {Kp:KP} {pb:Nat} {s:List UInt8} {r:PV α} {S:α→Value→Own→Prop} {f:FuncId} {args:Array Value} {K1:Value→World→Own→Prop} (h:∀ w,Sy wb L w→Calls P f args w (PVR wb pb s M r S))
 (hk:∀ x q v K,r=.ok x q→q≤s.length→S x v K→(∀ b∈K,wb.heap.size≤b.1)→K1 v wb (oPs pb s q::(K++M)))
 (hp:∀ er q K,r=.no er q→(∀ b∈K,wb.heap.size≤b.1)→Kp [wrongE er q] wb (K++M)):CallX P f args wb L (tag K1) (tag Kp):=by
 cases r with
 | ok x q =>
  refine callX_pan (S:=fun v L'=>∃ K,q≤s.length∧S x v K∧(∀ b∈K,wb.heap.size≤b.1)∧L'=oPs pb s q::(K++M)) (SP:=fun _ _=>False) (fun w hw=>(h w hw).mono fun e w' hx=>?_) (fun v L' hx=>?_) (fun _ _ hx=>hx.elim)
  ·obtain ⟨v,K,rfl,h2,h3,h4,h5⟩:=hx
   exact .inl ⟨v,_,rfl,h5,K,h2,h3,h4,rfl⟩
  ·obtain ⟨K,h2,h3,h4,rfl⟩:=hx
   exact hk x q v K rfl h2 h3 h4
 | no er q =>
  refine callX_pan (S:=fun _ _=>False) (SP:=fun ch L'=>∃ K:Own,ch=[wrongE er q]∧(∀ b∈K,wb.heap.size≤b.1)∧L'=K++M) (fun w hw=>(h w hw).mono fun e w' hx=>?_) (fun _ _ hx=>hx.elim) (fun ch L' hx=>?_)
  ·obtain ⟨K,rfl,h1,h2⟩:=hx
   exact .inr ⟨_,_,rfl,h2,K,rfl,h1,rfl⟩
  ·obtain ⟨K,rfl,h1,rfl⟩:=hx
   exact hp er q K rfl h1
theorem fail_walk (w:World) (q:Nat):Calls Tryz.prog 33 #[i64 q] w (fun e w'=>e=.panicked [wrongE 8 q]∧Sy w [] w'):=by
 refine enterB (args:=[i64 q]) Tryz.func33 rfl Tryz.ntmps33 (congrArg Array.toList Tryz.results33) (by kernel_rfl) (by simp) (Sy.refl w) ?_
 refine sp ?_
 refine ⟨_,_,rfl,?_⟩
 refine sp ?_
 exact fun w' hw'=>hw'
theorem callX_fail {wb:World} {L:Own} {Kp:KP} {K1:Value→World→Own→Prop} (q:Nat) (hp:Kp [wrongE 8 q] wb L):CallX Tryz.prog 33 #[i64 q] wb L (tag K1) (tag Kp) :=
 callX_pan (S:=fun _ _=>False) (SP:=fun ch L'=>ch=[wrongE 8 q]∧L'=L) (fun w' hw'=>(fail_walk w' q).mono fun e w'' ⟨he,hs⟩=>.inr ⟨_,_,he,hw'.frame hs,rfl,rfl⟩) (fun _ _ h=>h.elim) (fun ch L' ⟨h1,h2⟩=>by rw[h1,h2]; exact hp)
theorem getD_at {s:List UInt8} {i:Nat} (h:i < s.length):s[i]?=some (s.getD i 0):=by
 rw[List.getD_eq_getElem?_getD,List.getElem?_eq_getElem h]
 rfl
theorem byte_walk (w:World) (pb:Nat) (s:List UInt8) (p:Nat) (hat:At w pb 0 [str s,i64 p]) :
 Calls Tryz.prog 102 #[pPs pb] w (Rets w (Is (.tuple #[.int .u8 (s.getD p 0).toNat,.bool (decide (p < s.length))]))):=by
 refine enterT (args:=[pPs pb]) Tryz.func102 rfl Tryz.ntmps102 (congrArg Array.toList Tryz.results102) (by kernel_rfl) (by simp) (Sy.refl w) ?_
 have h1:At w pb 1 [i64 p]:=hat.sub 1 [i64 p] rfl
 have h0:At w pb 0 [str s]:=hat.sub 0 [str s] rfl
 refine sp ?_
 refine drawQT (by kernel_rfl) (by kernel_rfl) mixed (by kernel_rfl) ?_
 refine sp ?_
 refine ldF Shp.eq h1 (by simp) ?_
 refine sp ?_
 refine ldF Shp.eq h0 (by simp) ?_
 refine sp ?_
 rw[Vc]
 refine sp ?_
 refine cdD (fun hlt=>?_) (fun hge=>?_)
 ·refine sp ?_
  refine drawQT (by kernel_rfl) (by kernel_rfl) mixed (by kernel_rfl) ?_
  refine sp ?_
  refine ldF Shp.eq h0 (by simp) ?_
  refine sp ?_
  refine ldF Shp.eq h1 (by simp) ?_
  refine sp ?_
  exact finIs (by simp) (by rw[decide_eq_true (by omega:p < s.length)])
 ·refine sp ?_
  exact finIs (by simp) (by rw[decide_eq_false (by omega),List.getD_eq_getElem?_getD,List.getElem?_eq_none (by omega)]; rfl)
theorem must_walk (wb w:World) (pb:Nat) (s:List UInt8) (p:Nat) (M:Own) (c:UInt8) (ci:Int) (hc:ci=c.toNat) (hs:s.length≤65536) (hp:p≤s.length) (hpb:wb.heap.size≤pb) (hw:Sy wb (oPs pb s p::M) w) :
 Calls Tryz.prog 101 #[pPs pb,.int .u8 ci] w (PVR wb pb s M (mustV s [c] p) fun _ v K=>v=.tuple #[]∧K=[]):=by
 subst hc
 refine enterB (args:=[pPs pb,.int .u8 (c.toNat:Int)]) Tryz.func101 rfl Tryz.ntmps101 (congrArg Array.toList Tryz.results101) (by kernel_rfl) (by simp) hw ?_
 refine sp ?_
 refine callV en_102 (cIs (fun w' hw'=>byte_walk w' pb s p (At.of_own hw' mem0 rfl)) ?_)
 refine sp ?_
 have no:∀ (h:¬ s[p]?=some c) (w':World),Sy wb (oPs pb s p::M) w'→PVR wb pb s M (mustV s [c] p) (fun _ v K=>v=.tuple #[]∧K=[]) (.panicked [wrongE 8 p]) w':=fun h w' hw'=>by
  refine PVR.fall [oPs pb s p] ?_ (fun b hb=>by rw[List.mem_singleton.1 hb]; exact hpb) hw'
  unfold mustV
  rw[if_neg]
  intro h2
  apply h
  rw[List.isPrefixOf_iff_prefix] at h2
  obtain ⟨x,hx⟩:=h2
  exact (drop_cons hx.symm).1
 refine gF rfl (fun hlt=>?_) (fun hge=>?_)
 ·have hlt:p < s.length:=by omega
  refine sp ?_
  have hg:((s.getD p 0).toNat:Int)=c.toNat↔s[p]?=some c:=by
   rw[getD_at hlt]
   constructor
   ·intro e
    rw[UInt8.toNat_inj.1 (by omega:(s.getD p 0).toNat=c.toNat)]
   ·intro e
    rw[Option.some.inj e]
  rw[Vc]
  refine sp ?_
  refine cdD (fun hne=>?_) (fun he=>?_)
  ·refine sp ?_
   refine lOn Shp.eq mem0 rfl ?_
   refine sp ?_
   refine callV en_33 (callX_fail p ?_)
   refine sp ?_
   exact no (fun h=>hne (hg.2 h))
  ·have hsc:s[p]?=some c:=hg.1 (Decidable.not_not.1 he)
   refine sp ?_
   refine lOn Shp.eq mem0 rfl ?_
   refine sp ?_
   refine sXa 0 rfl Siz.eq rfl rfl ?_
   refine sp ?_
   refine fun w' hw'=>PVR.leaf (.tuple #[]) [] (x:=()) (q:=p+1) ?_ (by omega) ⟨rfl,rfl⟩ (by simp) (by rw[oPs,Int.natCast_add]; simpa [splice] using hw')
   exact mustV_yes (t:=[c]) (cons_drop hsc)
 ·have hlt:¬ p < s.length:=by omega
  refine sp ?_
  rw[Vc]
  refine sp ?_
  refine lOn Shp.eq mem0 rfl ?_
  refine sp ?_
  refine callV en_33 (callX_fail p ?_)
  refine sp ?_
  exact no (by rw[List.getElem?_eq_none (by omega)]; simp)
abbrev smallI (c:Int):Prop:=48≤c∧c≤57∨97≤c∧c≤122∨c=45
theorem small_int (w:World) (c:Int):Calls Tryz.prog 67 #[.int .u8 c] w (Rets w (Is (.bool (decide (smallI c))))):=by
 refine enterT (args:=[.int .u8 c]) Tryz.func67 rfl Tryz.ntmps67 (congrArg Array.toList Tryz.results67) (by kernel_rfl) (by simp) (Sy.refl w) ?_
 refine sp ?_
 repeat' (first|((first|((first|refine gT rfl ?_ ?_|refine gF rfl ?_ ?_|refine cdD ?_ ?_)<;>intro h)|((first|refine gbT rfl ?_ ?_|refine gbF rfl ?_ ?_|refine cdB ?_ ?_)<;>intro h<;>(try subst h))|refine lOa Shp.eq rfl ?_|refine lAa Shp.eq rfl rfl ?_|refine newI (fun b hb hn=>?_)|refine sXb Siz.eq rfl rfl ?_)<;>simp (disch:=omega) only[push_cast,qE])|(first|rw[Vc]|rw[Vb])<;>(try simp (disch:=omega) only[push_cast,qE]))
 all_goals (refine fun w' hw=>⟨_,rfl,hw,?_⟩; first|exact is_t (by omega)|exact is_f (by omega)|exact is_d (by omega))
theorem letter_int (w:World) (c:Int):Calls Tryz.prog 100 #[.int .u8 c] w (Rets w (Is (.bool (decide (letterP c))))):=by
 refine enterT (args:=[.int .u8 c]) Tryz.func100 rfl Tryz.ntmps100 (congrArg Array.toList Tryz.results100) (by kernel_rfl) (by simp) (Sy.refl w) ?_
 refine sp ?_
 refine callV en_67 (cIs (fun w' _=>small_int w' c) ?_)
 refine sp ?_
 repeat' (first|((first|((first|refine gT rfl ?_ ?_|refine gF rfl ?_ ?_|refine cdD ?_ ?_)<;>intro h)|((first|refine gbT rfl ?_ ?_|refine gbF rfl ?_ ?_|refine cdB ?_ ?_)<;>intro h<;>(try subst h))|refine lOa Shp.eq rfl ?_|refine lAa Shp.eq rfl rfl ?_|refine newI (fun b hb hn=>?_)|refine sXb Siz.eq rfl rfl ?_)<;>simp (disch:=omega) only[push_cast,qE])|(first|rw[Vc]|rw[Vb])<;>(try simp (disch:=omega) only[push_cast,qE]))
 all_goals (refine fun w' hw=>⟨_,rfl,hw,?_⟩; first|exact is_t (by omega)|exact is_f (by omega)|exact is_d (by omega))
theorem small_walk (w:World) (c:UInt8):Calls Tryz.prog 67 #[.int .u8 c.toNat] w (Rets w (Is (.bool (smallB c)))):=by
 have he:smallB c=decide (smallI c.toNat):=by unfold smallB; rw[decide_eq_decide]; omega
 rw[he]
 exact small_int w _
theorem letter_walk2 (w:World) (c:UInt8):Calls Tryz.prog 100 #[.int .u8 c.toNat] w (Rets w (Is (.bool (nameB c)))):=letter_int w _
def hexD:List UInt8:=[48,49,50,51,52,53,54,55,56,57,97,98,99,100,101,102]
theorem hex_index (c:UInt8):Lib.indexByte hexD c=match digV c with|some d=>(d:Int)|none=>-1:=by
 have:∀ k:Fin 256,Lib.indexByte hexD (UInt8.ofNat k.val)=match digV (UInt8.ofNat k.val) with|some d=>(d:Int)|none=>-1:=by decide +kernel
 have h:=this ⟨c.toNat,c.toNat_lt⟩
 simpa using h
theorem digV_lt {c:UInt8} {n:Nat} (h:digV c=some n):n < 16:=(digV_some h).1
theorem digit_fn (w:World) (c:UInt8):Calls Tryz.prog 127 #[.int .u8 c.toNat] w (Rets w (Is (.tuple #[.int .u8 (match digV c with|some d=>(d:Int)|none=>255),.bool (digV c).isSome]))):=by
 refine enterT (args:=[.int .u8 c.toNat]) Tryz.func127 rfl Tryz.ntmps127 (congrArg Array.toList Tryz.results127) (by kernel_rfl) (by simp) (Sy.refl w) ?_
 refine sp ?_
 refine callV en_150 (cIs (fun w' _=>indexByte_walk w' hexD c) ?_)
 rw[hex_index]
 cases h:digV c with
 | none =>
  refine sp ?_
  exact finIs (by simp) rfl
 | some d =>
  have hd:=digV_lt h
  refine sp ?_
  exact finIs (by simp) (by rw[decide_eq_true (by omega)]; rfl)
end Go.Proofs.YtilejcofleeeiaaGreatDoor
