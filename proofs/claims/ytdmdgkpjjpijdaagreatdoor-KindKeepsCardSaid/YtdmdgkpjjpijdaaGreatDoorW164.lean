/- YtdmdgkpjjpijdaaGreatDoor: walks, part 164: a reader: escapes. -/
import Derived.Test.YtdmdgkpjjpijdaaGreatDoorW162
namespace Go.Proofs.YtdmdgkpjjpijdaaGreatDoor
open Go Go.K
open Nat renaming reduceEqDiff → qE
set_option maxRecDepth 100000
set_option linter.unusedVariables false
set_option linter.unusedSimpArgs false
set_option maxHeartbeats 4000000
theorem word_ne {s w:List UInt8} {q r:Nat} (h:pWord s q=.ok w r):w≠[]∧w.length≤s.length:=by
 unfold pWord at h
 split at h
 ·cases h
 rename_i hne
 cases h
 have h1:q≤weP s q:=runP_ge letB s q
 have h2:(weP s q≤s.length∨s.length < q):=by
  rcases Nat.lt_or_ge s.length q with h3|h3
  ·exact .inr h3
  ·exact .inl (runP_le h3)
 rcases h2 with h2|h2
 ·constructor
  ·intro e
   have:=congrArg List.length e
   rw[List.length_drop,List.length_take,List.length_nil] at this
   omega
  ·rw[List.length_drop,List.length_take]; omega
 ·exact absurd (runP_end (by omega)) hne
theorem bin_err_nil {K:Value→Prop} (x:Operand):PureX Tryz.prog (binV .neq 155 x (.const .nilIface) .nilIface .nilIface) (tag K)=K (.bool false):=px (fun w=>by
 have h:(Op.equal 155 .nilIface .nilIface).run Tryz.prog w=.ok true w:=by
  show (Op.equalIn (9999+1) 155 .nilIface .nilIface).run Tryz.prog w=_
  unfold Op.equalIn
  simp only[underlying,Sem.run_bind,run_program,Result.andThen_ok,Tryz.underlying155,Sem.run_pure]
 simp[binV,eqGuard,binOp,h]) K
theorem bin_err_some {K:Value→Prop} (x:Operand) (te:TypeId) (pe:Value):PureX Tryz.prog (binV .neq 155 x (.const .nilIface) (.iface te pe) .nilIface) (tag K)=K (.bool true):=px (fun w=>by
 first
 | rfl
 | (simp[binV,eqGuard,binOp]; done)) K
theorem atoi_le {w:List UInt8} {n:Int} (h:Lib.atoiAll w=.ok n):n≤9223372036854775807:=by
 unfold Lib.atoiAll at h
 split at h
 ·cases h
 simp only at h
 split at h
 ·cases h
 ·cases h
 ·rename_i u _
  split at h
  ·cases h
  split at h
  ·cases h
  ·rename_i h1 h2
   have h3:=Lib.NumEnd.ok.inj h
   split at h3<;>omega
theorem number_walk (wb w:World) (hlib:LibAt wb) (rb:Nat) (s:List UInt8) (p:Nat) (M:Own) (hs:s.length≤65536) (hp:p≤s.length) (hrb:wb.heap.size≤rb) (hM:∀ b∈M,wb.heap.size≤b.1) (hw:Sy wb (oRd rb s p::M) w) :
 Calls Tryz.prog 110 #[.pointer (some ⟨rb,0,none⟩)] w (PRet wb rb s M (pNum s (blP s p)) fun n _ v K=>v=i64 n∧K=[]):=by
 refine enterB (args:=[.pointer (some ⟨rb,0,none⟩)]) Tryz.func110 rfl Tryz.ntmps110 (congrArg Array.toList Tryz.results110) (by kernel_rfl) (by simp) hw ?_
 refine sp ?_
 have hL:∀ p',∀ b∈oRd rb s p'::M,wb.heap.size≤b.1:=fun p' b hb=>by
  rcases List.mem_cons.1 hb with rfl|hb
  ·exact hrb
  ·exact hM b hb
 refine callV en_77 (callX_pr (fun w' hw'=>word_walk wb w' rb s p M hs hp hrb hw') (fun x q v p' K hr hq hp' hS hK=>?_) (fun q K hr hK=>?_))
 rotate_left
 ·refine sp ?_
  exact fun w' hw'=>PRet.fall K (by rw[pNum,hr,PR.and_no]) hK hw'
 have e1:=hS.1
 have e2:=hS.2
 subst e1
 subst e2
 have hx:=word_ne hr
 refine sp ?_
 refine callV en_120 (callX_ex (fun w' hw'=>atoi_walk w' (hlib.mono hw' (hL p')) x (by omega)) (fun v hv=>?_))
 rcases hv with ⟨n,hn,rfl⟩|⟨hno,n,te,pe,rfl⟩
 ·refine sp ?_
  refine Eq.mpr (bin_err_nil _) ?_
  refine sp ?_
  have hnum:numOK x=true→n=numOf x:=fun h=>by
   have h1:=(num_yes h hx.1).1
   rw[hn] at h1
   cases h1
   rfl
  refine gF rfl (fun h4=>?_) (fun h4=>?_)
  rotate_left
  ·refine sp ?_
   rw[Vc]
   refine sp ?_
   refine callV en_73 (callX_fail (blP s p) ?_)
   refine sp ?_
   have hno2:¬ numOK x=true:=fun h=>by have:=((numOK_iff x).1 h).1; omega
   exact fun w' hw'=>PRet.fall [oRd rb s p'] (by rw[pNum,hr,PR.and_ok,if_neg hno2]) (fun b hb=>by rw[List.mem_singleton.1 hb]; exact hrb) hw'
  refine sp ?_
  refine gF rfl (fun h0=>?_) (fun h0=>?_)
  rotate_left
  ·refine sp ?_
   rw[Vc]
   refine sp ?_
   refine callV en_73 (callX_fail (blP s p) ?_)
   refine sp ?_
   have hno2:¬ numOK x=true:=fun h=>by have:=hnum h; omega
   exact fun w' hw'=>PRet.fall [oRd rb s p'] (by rw[pNum,hr,PR.and_ok,if_neg hno2]) (fun b hb=>by rw[List.mem_singleton.1 hb]; exact hrb) hw'
  refine sp ?_
  refine callV en_121 (cIs (fun w' hw'=>itoa_walk w' (hlib.mono hw' (hL p')) n (by omega) (atoi_le hn)) ?_)
  refine sp ?_
  rw[Vc]
  refine sp ?_
  refine cdD (fun hne=>?_) (fun he=>?_)
  ·refine sp ?_
   refine callV en_73 (callX_fail (blP s p) ?_)
   refine sp ?_
   have hno2:¬ numOK x=true:=fun h=>hne (by rw[hnum h]; exact (num_yes h hx.1).2.1)
   exact fun w' hw'=>PRet.fall [oRd rb s p'] (by rw[pNum,hr,PR.and_ok,if_neg hno2]) (fun b hb=>by rw[List.mem_singleton.1 hb]; exact hrb) hw'
  ·refine sp ?_
   have he2:Lib.itoa n=x:=Decidable.not_not.1 he
   have hyes:numOK x=true:=Decidable.not_not.1 fun h=>num_no h (by omega) (by omega) he2
   exact fun w' hw'=>PRet.leaf (i64 n) p' [] (x:=numOf x) (q:=q) (by rw[pNum,hr,PR.and_ok,if_pos hyes]) hq hp' ⟨by rw[hnum hyes],rfl⟩ (by simp) hw'
 ·refine sp ?_
  refine Eq.mpr (bin_err_some _ _ _) ?_
  refine sp ?_
  rw[Vc]
  refine sp ?_
  refine callV en_73 (callX_fail (blP s p) ?_)
  refine sp ?_
  have hno2:¬ numOK x=true:=fun h=>hno _ (num_yes h hx.1).1
  exact fun w' hw'=>PRet.fall [oRd rb s p'] (by rw[pNum,hr,PR.and_ok,if_neg hno2]) (fun b hb=>by rw[List.mem_singleton.1 hb]; exact hrb) hw'
structure KdI (w0:World) (rb:Nat) (s:List UInt8) (p':Nat) (M:Own) (g:FuncId) (lets:Nat→Bool) (x:List UInt8) (q0:Nat) (k:Nat) (wb:World) (e:Env) (ds:List Deferred) (L:Own):Prop where
 hw:wb=w0
 hds:ds=[]
 hk1:1≤k
 hk2:k≤21
 hno:∀ j,0 < j→j < k→saysWord j=x→lets j=false
 h0:e 0=.pointer (some ⟨rb,0,none⟩)
 h1:e 1=.func (.func g) #[] #[]
 h5:e 5=str x
 h6:e 6=i64 q0
 h7:e 7=i64 k
 o:L=oRd rb s p'::M
theorem kind_walk (wb w:World) (hsy:SaysAt wb) (rb:Nat) (s:List UInt8) (p:Nat) (M:Own) (g:FuncId) (lets:Nat→Bool) (hen:entersB Tryz.prog g=true) (hlets:∀ (w':World) (k:Nat),SaysAt w'→1≤k→k≤20→Calls Tryz.prog g #[i64 k] w' (Rets w' (Is (.bool (lets k)))))
 (hs:s.length≤65536) (hp:p≤s.length) (hrb:wb.heap.size≤rb) (hM:∀ b∈M,wb.heap.size≤b.1) (hw:Sy wb (oRd rb s p::M) w) :
 Calls Tryz.prog 108 #[.pointer (some ⟨rb,0,none⟩),.func (.func g) #[] #[]] w (PRet wb rb s M (pKind s lets (blP s p)) fun n _ v K=>v=i64 n∧K=[]):=by
 refine enterB (args:=[.pointer (some ⟨rb,0,none⟩),.func (.func g) #[] #[]]) Tryz.func108 rfl Tryz.ntmps108 (congrArg Array.toList Tryz.results108) (by kernel_rfl) (by simp) hw ?_
 refine sp ?_
 have hL:∀ p',∀ b∈oRd rb s p'::M,wb.heap.size≤b.1:=fun p' b hb=>by
  rcases List.mem_cons.1 hb with rfl|hb
  ·exact hrb
  ·exact hM b hb
 refine callV en_77 (callX_pr (fun w' hw'=>word_walk wb w' rb s p M hs hp hrb hw') (fun x q v p' K hr hq hp' hS hK=>?_) (fun q K hr hK=>?_))
 rotate_left
 ·refine sp ?_
  exact fun w' hw'=>PRet.fall K (by rw[pKind,hr,PR.and_no]) hK hw'
 have e1:=hS.1
 have e2:=hS.2
 subst e1
 subst e2
 have hx:=word_ne hr
 refine sp ?_
 rw[Vb]
 refine sp ?_
 refine loopW (G:=Nat) (KdI wb rb s p' M g lets x (blP s p)) (fun k=>21 - k) 1 _ (fun w hw=>hw) (by kernel_rfl) ⟨rfl,rfl,by omega,by omega,fun j h1 h2=>by omega,rfl,rfl,rfl,rfl,rfl,rfl⟩ ?_
 rintro k wb e ds L ⟨rfl,rfl,hk1,hk2,hno,h0,h1,h5,h6,h7,rfl⟩
 simp (disch:=omega) only[push_cast,qE,h0,h1,h5,h6,h7]
 rw[Vc]
 simp (disch:=omega) only[push_cast,qE,h0,h1,h5,h6,h7]
 refine cdD (fun hle=>?_) (fun hgt=>?_)
 ·simp (disch:=omega) only[push_cast,qE,h0,h1,h5,h6,h7]
  rw[Vb]
  simp (disch:=omega) only[push_cast,qE,h0,h1,h5,h6,h7]
  refine ldF Shp.eq ((hsy.2 k (by omega)).sub 0 [str (saysWord k)] rfl) (out_of (fun p hp=>Nat.lt_of_lt_of_le hsy.1 (hL _ p hp))) ?_
  simp (disch:=omega) only[push_cast,qE,h0,h1,h5,h6,h7]
  refine gT rfl (fun he=>?_) (fun hne=>?_)
  ·simp (disch:=omega) only[push_cast,qE,h0,h1,h5,h6,h7]
   refine callV hen (cIs (fun w' hw'=>hlets w' k (hsy.mono hw' (hL p')) hk1 (by omega)) ?_)
   simp (disch:=omega) only[push_cast,qE,h0,h1,h5,h6,h7]
   rw[Vc]
   simp (disch:=omega) only[push_cast,qE,h0,h1,h5,h6,h7]
   refine cdB (fun hb=>?_) (fun hb=>?_)
   ·simp (disch:=omega) only[push_cast,qE,h0,h1,h5,h6,h7]
    have hkw:kindW x=k:=kindW_of (by omega) (by omega) he
    exact fun w' hw'=>PRet.leaf (i64 k) p' [] (x:=k) (q:=q) (by rw[pKind,hr,PR.and_ok,hkw,if_pos ⟨by omega,hb⟩]) hq hp' ⟨rfl,rfl⟩ (by simp) hw'
   ·simp (disch:=omega) only[push_cast,qE,h0,h1,h5,h6,h7]
    refine ⟨k+1,_,fun w hw=>hw,⟨rfl,rfl,by omega,by omega,fun j j1 j2 j3=>?_,h0,h1,h5,h6,uu,rfl⟩,by omega⟩
    rcases Nat.lt_or_ge j k with j4|j4
    ·exact hno j j1 j4 j3
    ·obtain rfl:j=k:=by omega
     exact hb
  ·simp (disch:=omega) only[push_cast,qE,h0,h1,h5,h6,h7]
   rw[Vc]
   simp (disch:=omega) only[push_cast,qE,h0,h1,h5,h6,h7]
   refine ⟨k+1,_,fun w hw=>hw,⟨rfl,rfl,by omega,by omega,fun j j1 j2 j3=>?_,h0,h1,h5,h6,uu,rfl⟩,by omega⟩
   rcases Nat.lt_or_ge j k with j4|j4
   ·exact hno j j1 j4 j3
   ·obtain rfl:j=k:=by omega
    exact absurd j3 hne
 ·simp (disch:=omega) only[push_cast,qE,h0,h1,h5,h6,h7]
  refine callV en_73 (callX_fail (blP s p) ?_)
  simp (disch:=omega) only[push_cast,qE,h0,h1,h5,h6,h7]
  have hno2:¬ (kindW x≠0∧lets (kindW x)=true):=fun ⟨a1,a2⟩=>by
   have a3:=kindW_word a1
   rw[hno _ a3.1 (by omega) a3.2.2] at a2
   cases a2
  exact fun w' hw'=>PRet.fall [oRd rb s p'] (by rw[pKind,hr,PR.and_ok,if_neg hno2]) (fun b hb=>by rw[List.mem_singleton.1 hb]; exact hrb) hw'
theorem known_lets (w':World) (k:Nat) (hs:SaysAt w') (h1:1≤k) (h2:k≤20):Calls Tryz.prog 109 #[i64 k] w' (Rets w' (Is (.bool true))):=by
 have h:=known_walk w' k
 rwa [show decide (1≤(k:Int)∧(k:Int)≤20)=true from decide_eq_true (by omega)] at h
theorem index_lets (w':World) (k:Nat) (hs:SaysAt w') (h1:1≤k) (h2:k≤20):Calls Tryz.prog 112 #[i64 k] w' (Rets w' (Is (.bool (saysIdx k)))):=by
 refine enterT (args:=[i64 k]) Tryz.func112 rfl Tryz.ntmps112 (congrArg Array.toList Tryz.results112) (by kernel_rfl) (by simp) (Sy.refl w') ?_
 refine sp ?_
 refine ldF Shp.eq ((hs.2 k (by omega)).sub 3 [.bool (saysIdx k)] rfl) (by simp) ?_
 refine sp ?_
 exact finIs (by simp) rfl
def hexD:List UInt8:=[48,49,50,51,52,53,54,55,56,57,97,98,99,100,101,102]
theorem index_find (c:UInt8):∀ l:List UInt8,Lib.indexByte l c=match l.findIdx? (· == c) with|some i=>(i:Int)|none=>-1
 | []=>rfl
 | b::l=>by
  rw[Lib.indexByte,List.findIdx?_cons]
  by_cases h:(b == c)=true
  ·rw[if_pos h,if_pos h]; rfl
  ·rw[if_neg h,if_neg h,index_find c l]
   cases l.findIdx? (· == c) with
   | none=>rfl
   | some i =>
    simp only[Option.map_some]
    rw[if_neg (by simp)]
    try rfl
theorem hex_index (c:UInt8):Lib.indexByte hexD c=match hexV c with|some i=>(i:Int)|none=>-1:=index_find c hexD
theorem hex_lt {c:UInt8} {n:Nat} (h:hexV c=some n):n < 16:=by
 have h1:=List.findIdx?_eq_some_iff_getElem.1 h
 obtain ⟨h2,_⟩:=h1
 exact h2
theorem hex_nn {c:UInt8}:0≤Lib.indexByte hexD c↔∃ n,hexV c=some n:=by
 rw[hex_index]
 cases hexV c with
 | none=>simp
 | some n=>simp
def escT (t:List UInt8):Option (UInt8×Nat) :=
 if 2≤t.length∧(t.getD 1 0=34∨t.getD 1 0=92) then some (t.getD 1 0,2) else if t.length < 4∨t.getD 1 0≠120 then none
 else match hexV (t.getD 2 0) with
  | none=>none
  | some x=>match hexV (t.getD 3 0) with
   | none=>none
   | some y=>some (UInt8.ofNat (16 * x+y),4)
def cutT (t:List UInt8):Bool:=decide (t.length < 2) || (decide (t.length < 4) && decide (t.getD 1 0=120) && (decide (t.length < 3) || (hexV (t.getD 2 0)).isSome))
theorem esc_eq (s:List UInt8) (p:Nat) (hp:p < s.length):pEsc s p=match escT (s.drop p) with
 | some x=>.ok x.1 (p+x.2)
 | none=>.no (if cutT (s.drop p)=true then s.length else p):=by
 have hg:∀ i,s[p+i]?=(s.drop p)[i]?:=fun i=>by rw[List.getElem?_drop]
 have hl:(s.drop p).length=s.length - p:=List.length_drop ..
 unfold pEsc
 rw[hg 1,hg 2,hg 3]
 generalize s.drop p=t at hl
 match t with
 | []=>simp at hl; omega
 | [a]=>simp[escT,cutT]
 | [a,b] =>
  by_cases h1:b=34∨b=92
  ·simp[escT,h1]
  ·by_cases h2:b=120
   ·subst h2; simp[escT,cutT]
   ·simp[escT,cutT,h1,h2]
 | [a,b,c] =>
  by_cases h1:b=34∨b=92
  ·simp[escT,h1]
  ·by_cases h2:b=120
   ·subst h2
    cases hc:hexV c<;>simp[escT,cutT,hc]
   ·simp[escT,cutT,h1,h2]
 | a::b::c::d::r =>
  have l4:¬ (r.length+1+1+1+1 < 4):=by omega
  have l3:¬ (r.length+1+1+1+1 < 3):=by omega
  have l2:¬ (r.length+1+1+1+1 < 2):=by omega
  have m2:2≤r.length+1+1+1+1:=by omega
  by_cases h1:b=34∨b=92
  ·simp[escT,h1]
  ·by_cases h2:b=120
   ·subst h2
    cases hc:hexV c with
    | none=>simp[escT,cutT,hc,l4,l3,l2]
    | some x =>
     cases hd:hexV d<;>simp[escT,cutT,hc,hd,l4,l3,l2]
   ·simp[escT,cutT,h1,h2,l4,l3,l2]
theorem u8_eq {c:UInt8} {n:Nat} (hn:n < 256):((c.toNat:Int)=n)=(c=UInt8.ofNat n):=by
 apply propext
 constructor
 ·intro h
  have h1:c.toNat=n:=by omega
  rw[← h1]
  exact UInt8.ofNat_toNat.symm
 ·intro h
  rw[h,UInt8.toNat_ofNat']
  omega
theorem escaped_walk (w:World) (t:List UInt8) (ht:t.length≤65536) :
 Calls Tryz.prog 102 #[str t] w (Rets w fun v _=>match escT t with
  | some x=>v=.tuple #[.int .u8 x.1.toNat,i64 x.2]∧0 < x.2∧x.2≤t.length
  | none=>v=.tuple #[.int .u8 0,i64 0]):=by
 refine enterT (args:=[str t]) Tryz.func102 rfl Tryz.ntmps102 (congrArg Array.toList Tryz.results102) (by kernel_rfl) (by simp) (Sy.refl w) ?_
 refine sp ?_
 have q34:(((t.getD 1 0).toNat:Int)=34)=(t.getD 1 0=34):=u8_eq (by decide)
 have q92:(((t.getD 1 0).toNat:Int)=92)=(t.getD 1 0=92):=u8_eq (by decide)
 have q120:(((t.getD 1 0).toNat:Int)=120)=(t.getD 1 0=120):=u8_eq (by decide)
 refine gT rfl (fun h2=>?_) (fun h2=>?_)
 ·by_cases h34:t.getD 1 0=34
  ·have w34:=q34.trans (eq_true h34)
   simp (disch:=omega) only[push_cast,qE,w34,decide_true]
   rw[Vc]
   simp (disch:=omega) only[push_cast,qE,w34,decide_true]
   have he:escT t=some (t.getD 1 0,2):=by unfold escT; rw[if_pos ⟨by omega,.inl h34⟩]
   exact finEx (by simp) (fun w' hw'=>by rw[he]; exact ⟨rfl,Nat.zero_lt_two,by omega⟩)
  ·have w34:=q34.trans (eq_false h34)
   simp (disch:=omega) only[push_cast,qE,w34,decide_false]
   by_cases h92:t.getD 1 0=92
   ·have w92:=q92.trans (eq_true h92)
    simp (disch:=omega) only[push_cast,qE,w92,decide_true]
    rw[Vc]
    simp (disch:=omega) only[push_cast,qE,w92,decide_true]
    have he:escT t=some (t.getD 1 0,2):=by unfold escT; rw[if_pos ⟨by omega,.inr h92⟩]
    exact finEx (by simp) (fun w' hw'=>by rw[he]; exact ⟨rfl,Nat.zero_lt_two,by omega⟩)
   ·have w92:=q92.trans (eq_false h92)
    simp (disch:=omega) only[push_cast,qE,w92,decide_false]
    rw[Vc]
    simp (disch:=omega) only[push_cast,qE,w92,decide_false]
    have n1:¬ (2≤t.length∧(t.getD 1 0=34∨t.getD 1 0=92)):=fun ⟨_,h⟩=>h.elim h34 h92
    refine gF rfl (fun h4=>?_) (fun h4=>?_)
    rotate_left
    ·refine sp ?_
     rw[Vc]
     refine sp ?_
     have he:escT t=none:=by unfold escT; rw[if_neg n1,if_pos (.inl (by omega))]
     exact finEx (by simp) (fun w' hw'=>by rw[he])
    refine sp ?_
    by_cases h120:t.getD 1 0=120
    ·have w120:=q120.trans (eq_true h120)
     simp (disch:=omega) only[push_cast,qE,w120,ne_eq,not_true_eq_false,decide_false]
     rw[Vc]
     simp (disch:=omega) only[push_cast,qE,w120,ne_eq,not_true_eq_false,decide_false]
     have n2:¬ (t.length < 4∨t.getD 1 0≠120):=fun h=>h.elim (fun h=>by omega) (fun h=>h h120)
     refine drawQT (by kernel_rfl) (by kernel_rfl) mixed (by kernel_rfl) ?_
     refine sp ?_
     refine qcallV en_71 (qcallX_is _ (fun w' hw'=>indexByte_walk w' hexD (t.getD 2 0)) ?_)
     refine sp ?_
     refine qcallV en_71 (qcallX_is _ (fun w' hw'=>indexByte_walk w' hexD (t.getD 3 0)) ?_)
     refine sp ?_
     have hnone:∀ (h:hexV (t.getD 2 0)=none∨hexV (t.getD 3 0)=none),escT t=none:=fun h=>by
      unfold escT
      rw[if_neg n1,if_neg n2]
      rcases h with h|h
      ·rw[h]
      ·rw[h]; cases hexV (t.getD 2 0)<;>rfl
     cases hc:hexV (t.getD 2 0) with
     | none =>
      have e2:Lib.indexByte hexD (t.getD 2 0)=-1:=by rw[hex_index,hc]
      rw[e2]
      try simp (disch:=omega) only[push_cast,qE]
      refine gF rfl (fun h=>by omega) (fun _=>?_)
      refine sp ?_
      rw[Vc]
      refine sp ?_
      exact finEx (by simp) (fun w' hw'=>by rw[hnone (.inl hc)])
     | some x =>
      have e2:Lib.indexByte hexD (t.getD 2 0)=(x:Int):=by rw[hex_index,hc]
      have hx:=hex_lt hc
      rw[e2]
      try simp (disch:=omega) only[push_cast,qE]
      refine gF rfl (fun _=>?_) (fun h=>by omega)
      cases hd:hexV (t.getD 3 0) with
      | none =>
       have e3:Lib.indexByte hexD (t.getD 3 0)=-1:=by rw[hex_index,hd]
       rw[e3]
       try simp (disch:=omega) only[push_cast,qE]
       rw[Vc]
       refine sp ?_
       refine cdD (fun _=>?_) (fun h=>absurd (by decide) h)
       refine sp ?_
       exact finEx (by simp) (fun w' hw'=>by rw[hnone (.inr hd)])
      | some y =>
       have e3:Lib.indexByte hexD (t.getD 3 0)=(y:Int):=by rw[hex_index,hd]
       have hy:=hex_lt hd
       rw[e3]
       try simp (disch:=omega) only[push_cast,qE]
       rw[Vc]
       refine sp ?_
       refine cdD (fun h=>by omega) (fun _=>?_)
       refine sp ?_
       have he:escT t=some (UInt8.ofNat (16 * x+y),4):=by
        unfold escT
        rw[if_neg n1,if_neg n2,hc,hd]
       have hxy:(UInt8.ofNat (16 * x+y)).toNat=16 * x+y:=by rw[UInt8.toNat_ofNat']; omega
       refine finEx (by simp) (fun w' hw'=>?_)
       rw[he]
       refine ⟨?_,Nat.zero_lt_succ 3,by show 4≤t.length; omega⟩
       simp only[hxy]
       simp
    ·have w120:=q120.trans (eq_false h120)
     simp (disch:=omega) only[push_cast,qE,w120,ne_eq,not_false_eq_true,decide_true]
     rw[Vc]
     simp (disch:=omega) only[push_cast,qE,w120,ne_eq,not_false_eq_true,decide_true]
     have he:escT t=none:=by unfold escT; rw[if_neg n1,if_pos (.inr h120)]
     exact finEx (by simp) (fun w' hw'=>by rw[he])
 ·refine sp ?_
  rw[Vc]
  refine sp ?_
  refine gF rfl (fun h4=>by omega) (fun h4=>?_)
  refine sp ?_
  rw[Vc]
  refine sp ?_
  have he:escT t=none:=by unfold escT; rw[if_neg (by omega),if_pos (by omega)]
  exact finEx (by simp) (fun w' hw'=>by rw[he]) 
theorem cut_walk (wb w:World) (rb:Nat) (s:List UInt8) (p:Nat) (M:Own) (hs:s.length≤65536) (hp:p < s.length) (hw:Sy wb (oRd rb s p::M) w) :
 Calls Tryz.prog 103 #[.pointer (some ⟨rb,0,none⟩)] w (fun e w'=>e=.panicked [faultE (if cutT (s.drop p)=true then s.length else p)]∧Sy wb (oRd rb s p::M) w'):=by
 refine enterB (args:=[.pointer (some ⟨rb,0,none⟩)]) Tryz.func103 rfl Tryz.ntmps103 (congrArg Array.toList Tryz.results103) (by kernel_rfl) (by simp) hw ?_
 refine sp ?_
 refine drawQT (by kernel_rfl) (by kernel_rfl) mixed (by kernel_rfl) ?_
 refine sp ?_
 refine lOn Shp.eq mem0 rfl ?_
 refine sp ?_
 refine lOn Shp.eq mem0 rfl ?_
 simp (disch:=omega) only[push_cast,qE,Int.toNat_natCast]
 have hlen:(s.drop p).length=s.length - p:=List.length_drop ..
 generalize s.drop p=t at hlen ⊢
 have q120:(((t.getD 1 0).toNat:Int)=120)=(t.getD 1 0=120):=u8_eq (by decide)
 refine gF rfl (fun h2=>?_) (fun h2=>?_)
 rotate_left
 ·have hc:cutT t=true:=by simp[cutT,show t.length < 2 by omega]
  refine sp ?_
  rw[Vc]
  refine sp ?_
  refine lOn Shp.eq mem0 rfl ?_
  refine sp ?_
  refine callV en_73 (callX_fail s.length ?_)
  refine sp ?_
  exact fun w' hw'=>⟨by rw[hc,if_pos rfl],hw'⟩
 refine sp ?_
 refine gT rfl (fun h4=>?_) (fun h4=>?_)
 rotate_left
 ·have hc:cutT t=false:=by simp[cutT,show ¬ t.length < 2 by omega,show ¬ t.length < 4 by omega]
  refine sp ?_
  rw[Vc]
  refine sp ?_
  refine lOn Shp.eq mem0 rfl ?_
  refine sp ?_
  refine callV en_73 (callX_fail p ?_)
  refine sp ?_
  exact fun w' hw'=>⟨by rw[hc,if_neg (by decide)],hw'⟩
 by_cases h120:t.getD 1 0=120
 rotate_left
 ·have w120:=q120.trans (eq_false h120)
  have hc:cutT t=false:=by simp only[cutT,h120,decide_false]; simp[show ¬ t.length < 2 by omega]
  simp (disch:=omega) only[push_cast,qE,w120,decide_false]
  rw[Vc]
  simp (disch:=omega) only[push_cast,qE,w120,decide_false]
  refine lOn Shp.eq mem0 rfl ?_
  refine sp ?_
  refine callV en_73 (callX_fail p ?_)
  refine sp ?_
  exact fun w' hw'=>⟨by rw[hc,if_neg (by decide)],hw'⟩
 have w120:=q120.trans (eq_true h120)
 simp (disch:=omega) only[push_cast,qE,w120,decide_true]
 refine gF rfl (fun h3=>?_) (fun h3=>?_)
 rotate_left
 ·have hc:cutT t=true:=by simp only[cutT,h120,decide_true]; simp[show t.length < 3 by omega,show t.length < 4 by omega]
  refine sp ?_
  rw[Vc]
  refine sp ?_
  refine lOn Shp.eq mem0 rfl ?_
  refine sp ?_
  refine callV en_73 (callX_fail s.length ?_)
  refine sp ?_
  exact fun w' hw'=>⟨by rw[hc,if_pos rfl],hw'⟩
 refine sp ?_
 refine callV en_71 (cIs (fun w' hw'=>indexByte_walk w' hexD (t.getD 2 0)) ?_)
 refine sp ?_
 rw[Vc]
 refine sp ?_
 refine cdD (fun hh=>?_) (fun hh=>?_)
 ·obtain ⟨n,hn⟩:=hex_nn.1 hh
  have hc:cutT t=true:=by simp only[cutT,h120,decide_true,hn]; simp[show t.length < 4 by omega]
  refine sp ?_
  refine lOn Shp.eq mem0 rfl ?_
  refine sp ?_
  refine callV en_73 (callX_fail s.length ?_)
  refine sp ?_
  exact fun w' hw'=>⟨by rw[hc,if_pos rfl],hw'⟩
 ·have hn:hexV (t.getD 2 0)=none:=by
   cases h9:hexV (t.getD 2 0) with
   | none=>rfl
   | some n=>exact absurd (hex_nn.2 ⟨n,h9⟩) hh
  have hc:cutT t=false:=by simp only[cutT,h120,decide_true,hn]; simp[show ¬ t.length < 2 by omega,show ¬ t.length < 3 by omega]
  refine sp ?_
  refine lOn Shp.eq mem0 rfl ?_
  refine sp ?_
  refine callV en_73 (callX_fail p ?_)
  refine sp ?_
  exact fun w' hw'=>⟨by rw[hc,if_neg (by decide)],hw'⟩
end Go.Proofs.YtdmdgkpjjpijdaaGreatDoor
