/- YtdmdgkpjjpijdaaGreatDoor: walks, part 160: the library's functions that a reader calls: strings.IndexByte, strconv.Atoi, strconv.Itoa; a reader gives up. -/
import Derived.Test.YtdmdgkpjjpijdaaGreatDoorW150
import Derived.Test.YtdmdgkpjjpijdaaGreatDoorW116
import Derived.Lib.AtoiAll
import Derived.Lib.ItoaNum
import Derived.Shelf.Small.Strs
import Derived.Shelf.Strconv.AtoiAll
import Derived.Shelf.Strconv.Itoa3
import Derived.Lib.AppendIntMem
import Derived.Lib.SmallJoins
namespace Go.Proofs.YtdmdgkpjjpijdaaGreatDoor
open Go Go.K
open List renaming length_cons → qN
set_option maxRecDepth 100000
set_option linter.unusedVariables false
set_option linter.unusedSimpArgs false
set_option maxHeartbeats 4000000
abbrev oRd (rb:Nat) (s:List UInt8) (p:Nat):Nat×Obj:=(rb,Obj.cells #[str s,i64 p] 73 (0,0))
abbrev faultE (q:Nat):PanicEntry:={ v:=.iface 69 (.agg #[i64 q]),recovered:=false }
def PRet {α:Type} (wb:World) (rb:Nat) (s:List UInt8) (M:Own) (r:PR α) (S:α→Nat→Value→Own→Prop) (e:Ending) (w':World):Prop :=
 match r with
 | .ok x q=>∃ (v:Value) (p':Nat) (K:Own),e=.returned v∧blP s p'=q∧p'≤s.length∧S x q v K∧(∀ b∈K,wb.heap.size≤b.1)∧Sy wb (oRd rb s p'::(K++M)) w'
 | .no q=>∃ K:Own,e=.panicked [faultE q]∧(∀ b∈K,wb.heap.size≤b.1)∧Sy wb (K++M) w'
theorem PRet.leaf {α:Type} {wb w':World} {rb:Nat} {s:List UInt8} {M:Own} {r:PR α} {S:α→Nat→Value→Own→Prop} {x:α} {q:Nat} (v:Value) (p':Nat) (K:Own) (hr:r=.ok x q) (h1:blP s p'=q) (h2:p'≤s.length) (h3:S x q v K) (h4:∀ b∈K,wb.heap.size≤b.1) (h5:Sy wb (oRd rb s p'::(K++M)) w'):PRet wb rb s M r S (.returned v) w':=by
 rw[hr]
 exact ⟨v,p',K,rfl,h1,h2,h3,h4,h5⟩
theorem PRet.fall {α:Type} {wb w':World} {rb:Nat} {s:List UInt8} {M:Own} {r:PR α} {S:α→Nat→Value→Own→Prop} {q:Nat} (K:Own) (hr:r=.no q) (h4:∀ b∈K,wb.heap.size≤b.1) (h5:Sy wb (K++M) w'):PRet wb rb s M r S (.panicked [faultE q]) w':=by
 rw[hr]
 exact ⟨K,rfl,h4,h5⟩
theorem callX_pr {P:Program} {α:Type} {wb:World} {L M:Own} {Kp:KP} {rb:Nat} {s:List UInt8} {r:PR α} {S:α→Nat→Value→Own→Prop} {f:FuncId} {args:Array Value} {K1:Value→World→Own→Prop} (h:∀ w,Sy wb L w→Calls P f args w (PRet wb rb s M r S))
 (hk:∀ x q v p' K,r=.ok x q→blP s p'=q→p'≤s.length→S x q v K→(∀ b∈K,wb.heap.size≤b.1)→K1 v wb (oRd rb s p'::(K++M)))
 (hp:∀ q K,r=.no q→(∀ b∈K,wb.heap.size≤b.1)→Kp [faultE q] wb (K++M)):CallX P f args wb L (tag K1) (tag Kp):=by
 cases r with
 | ok x q =>
  refine callX_pan (S:=fun v L'=>∃ p' K,blP s p'=q∧p'≤s.length∧S x q v K∧(∀ b∈K,wb.heap.size≤b.1)∧L'=oRd rb s p'::(K++M)) (SP:=fun _ _=>False) (fun w hw=>(h w hw).mono fun e w' hx=>?_) (fun v L' hx=>?_) (fun _ _ hx=>hx.elim)
  ·obtain ⟨v,p',K,rfl,h1,h2,h3,h4,h5⟩:=hx
   exact .inl ⟨v,_,rfl,h5,p',K,h1,h2,h3,h4,rfl⟩
  ·obtain ⟨p',K,h1,h2,h3,h4,rfl⟩:=hx
   exact hk x q v p' K rfl h1 h2 h3 h4
 | no q =>
  refine callX_pan (S:=fun _ _=>False) (SP:=fun ch L'=>∃ K:Own,ch=[faultE q]∧(∀ b∈K,wb.heap.size≤b.1)∧L'=K++M) (fun w hw=>(h w hw).mono fun e w' hx=>?_) (fun _ _ hx=>hx.elim) (fun ch L' hx=>?_)
  ·obtain ⟨K,rfl,h1,h2⟩:=hx
   exact .inr ⟨_,_,rfl,h2,K,rfl,h1,rfl⟩
  ·obtain ⟨K,rfl,h1,rfl⟩:=hx
   exact hp q K rfl h1
mutual
def OwP:Sp→Own→Option Addr→Nat→Prop
 | .mk at_ kids,K,a,c=>at_≤1000000∧((kids=[]∧a=none∧c=0∧K=[]) ∨
  ∃ (b:Nat) (cs:List Value) (K':Own),a=some ⟨b,0,none⟩∧K=(b,Obj.cells cs.toArray 93 (0,0))::K'∧kids.length≤c∧c≤maxLen∧OwPK kids K' (cs.take (kids.length * 2)))
def OwPK:List Sp→Own→List Value→Prop
 | [],K,cs=>K=[]∧cs=[]
 | x::l,K,cs=>∃ (K1 K2:Own) (a:Option Addr) (c:Nat) (cs':List Value),K=K1++K2∧cs=[i64 x.at_,.slice a x.kids.length c]++cs'∧OwP x K1 a c∧OwPK l K2 cs'
end
theorem OwP_iff (x:Sp) (K:Own) (a:Option Addr) (c:Nat):OwP x K a c↔x.at_≤1000000∧((x.kids=[]∧a=none∧c=0∧K=[]) ∨
 ∃ (b:Nat) (cs:List Value) (K':Own),a=some ⟨b,0,none⟩∧K=(b,Obj.cells cs.toArray 93 (0,0))::K'∧x.kids.length≤c∧c≤maxLen∧OwPK x.kids K' (cs.take (x.kids.length * 2))):=by
 cases x; rw[OwP]; rfl
abbrev OwPS (l:List Sp) (K:Own) (a:Option Addr) (c:Nat):Prop:=OwP (.mk 0 l) K a c
theorem OwPS_iff (l:List Sp) (K:Own) (a:Option Addr) (c:Nat):OwPS l K a c↔((l=[]∧a=none∧c=0∧K=[]) ∨
 ∃ (b:Nat) (cs:List Value) (K':Own),a=some ⟨b,0,none⟩∧K=(b,Obj.cells cs.toArray 93 (0,0))::K'∧l.length≤c∧c≤maxLen∧OwPK l K' (cs.take (l.length * 2))):=by
 rw[OwPS,OwP]; simp
theorem OwP.toS {x:Sp} {K:Own} {a:Option Addr} {c:Nat} (h:OwP x K a c):OwPS x.kids K a c:=(OwPS_iff _ _ _ _).2 ((OwP_iff _ _ _ _).1 h).2
theorem OwPS.toP {x:Sp} {K:Own} {a:Option Addr} {c:Nat} (h:OwPS x.kids K a c) (hn:x.at_≤1000000):OwP x K a c:=(OwP_iff _ _ _ _).2 ⟨hn,(OwPS_iff _ _ _ _).1 h⟩
theorem OwPK.append {m:List Sp} {K2:Own} {ds:List Value} (hd:OwPK m K2 ds):∀ {l:List Sp} {K1:Own} {cs:List Value},OwPK l K1 cs→OwPK (l++m) (K1++K2) (cs++ds)
 | [],K1,cs,h=>by rw[OwPK] at h; obtain ⟨rfl,rfl⟩:=h; exact hd
 | f::l,K1,cs,h=>by
  rw[OwPK] at h
  obtain ⟨A,B,a,c,cs',rfl,rfl,h1,h2⟩:=h
  rw[List.cons_append,OwPK]
  exact ⟨A,B++K2,a,c,cs'++ds,by rw[List.append_assoc],by rw[List.append_assoc],h1,OwPK.append hd h2⟩
theorem OwPK.single {x:Sp} {K:Own} {a:Option Addr} {c:Nat} (h:OwP x K a c):OwPK [x] K [i64 x.at_,.slice a x.kids.length c]:=by
 rw[OwPK]
 exact ⟨K,[],a,c,[],by simp,by simp,h,by rw[OwPK]; exact ⟨rfl,rfl⟩⟩
theorem OwPK.nil:OwPK [] [] []:=by rw[OwPK]; exact ⟨rfl,rfl⟩
theorem OwPK.len:∀ {l:List Sp} {K:Own} {cs:List Value},OwPK l K cs→cs.length=l.length * 2
 | [],K,cs,h=>by rw[OwPK] at h; rw[h.2]; rfl
 | f::l,K,cs,h=>by
  rw[OwPK] at h
  obtain ⟨K1,K2,a,c,cs',_,rfl,_,h2⟩:=h
  have:=OwPK.len h2
  simp only[List.length_append,qN,List.length_nil,this]
  omega
theorem OwPK.get {x:Sp}:∀ {l:List Sp} {K:Own} {cs:List Value} (i:Nat),OwPK l K cs→l[i]?=some x→∃ (K1:Own) (a:Option Addr) (c:Nat),(∀ p∈K1,p∈K)∧OwP x K1 a c∧cs[i * 2]?=some (i64 x.at_)∧cs[i * 2+1]?=some (.slice a x.kids.length c)
 | [],_,_,i,_,hi=>by simp at hi
 | y::l,K,cs,0,h,hi=>by
  simp only[List.getElem?_cons_zero,Option.some.injEq] at hi
  subst hi
  rw[OwPK] at h
  obtain ⟨K1,K2,a,c,cs',rfl,rfl,h1,h2⟩:=h
  exact ⟨K1,a,c,fun p hp=>List.mem_append_left _ hp,h1,rfl,rfl⟩
 | y::l,K,cs,i+1,h,hi=>by
  simp only[List.getElem?_cons_succ] at hi
  rw[OwPK] at h
  obtain ⟨K1,K2,a,c,cs',rfl,rfl,h1,h2⟩:=h
  obtain ⟨K3,a3,c3,q1,q2,q3,q4⟩:=OwPK.get i h2 hi
  refine ⟨K3,a3,c3,fun p hp=>List.mem_append_right _ (q1 p hp),q2,?_,?_⟩
  ·rw[show (i+1) * 2=i * 2+2 by omega]; exact q3
  ·rw[show (i+1) * 2+1=i * 2+1+2 by omega]; exact q4
def OwN (nt:List NoteQ) (K:Own) (a:Option Addr) (c:Nat):Prop:=(nt=[]∧a=none∧c=0∧K=[]) ∨
 ∃ (b:Nat) (cs:List Value),a=some ⟨b,0,none⟩∧K=[(b,Obj.cells cs.toArray 90 (0,0))]∧nt.length≤c∧c≤maxLen∧cs.length=c * 2∧cs.take (nt.length * 2)=nt.flatMap fun n=>[str n.1,str n.2]
theorem numOf_append (w:List UInt8) (c:UInt8):numOf (w++[c])=10 * numOf w+(c.toNat - 48):=by unfold numOf; rw[List.foldl_append]; rfl
theorem digB_iff (c:UInt8):digB c=true↔48≤c.toNat∧c.toNat≤57:=by unfold digB; simp
theorem foldl_pos:∀ (w:List UInt8) (n:Nat),0 < n→0 < w.foldl (fun n c=>10 * n+(c.toNat - 48)) n
 | [],n,h=>h
 | c::w,n,h=>foldl_pos w _ (by show 0 < 10 * n+(c.toNat - 48); omega)
theorem numOf_pos {w:List UInt8} (hd:∀ c∈w,digB c=true) (h0:w≠[]) (hh:w.head?≠some 48):0 < numOf w:=by
 cases w with
 | nil=>exact absurd rfl h0
 | cons c w =>
  unfold numOf
  rw[List.foldl_cons]
  refine foldl_pos w _ ?_
  have h1:=(digB_iff c).1 (hd c (.head _))
  have h2:c.toNat≠48:=fun e=>hh (by rw[List.head?_cons]; congr 1; exact UInt8.toNat_inj.1 e)
  omega
theorem dig_back {c:UInt8} (h:digB c=true):UInt8.ofNat (48+(c.toNat - 48))=c:=by
 have h1:=(digB_iff c).1 h
 rw[show 48+(c.toNat - 48)=c.toNat by omega]
 exact UInt8.ofNat_toNat
theorem dec_step (n d:Nat) (hn:0 < n) (hd:d < 10):Lib.decDigits (10 * n+d)=Lib.decDigits n++[UInt8.ofNat (48+d)]:=by
 rw[Lib.decDigits,dif_neg (by omega),show (10 * n+d) / 10=n by omega,show (10 * n+d) % 10=d by omega]
theorem dec_num:∀ (n:Nat) (w:List UInt8),w.length=n→(∀ c∈w,digB c=true)→w≠[]→(w.length=1∨w.head?≠some 48)→Lib.decDigits (numOf w)=w
 | 0,w,hn,hd,h0,hh=>absurd (List.eq_nil_of_length_eq_zero hn) h0
 | n+1,w,hn,hd,h0,hh=>by
  obtain ⟨v,c,rfl⟩:∃ v c,w=v++[c]:=⟨w.dropLast,w.getLast h0,(List.dropLast_concat_getLast h0).symm⟩
  have hc:=hd c (by simp)
  have hc2:=(digB_iff c).1 hc
  rw[numOf_append]
  by_cases hv:v=[]
  ·subst hv
   rw[show numOf []=0 from rfl,Nat.mul_zero,Nat.zero_add,Lib.decDigits,dif_pos (by omega),dig_back hc]
   rfl
  ·have hl:v.length=n:=by simp at hn; omega
   have hv1:v.head?≠some 48:=by
    rcases hh with hh|hh
    ·have:0 < v.length:=List.length_pos_iff.2 hv
     rw[List.length_append,List.length_singleton] at hh
     omega
    ·obtain ⟨x,r,e⟩:=List.exists_cons_of_ne_nil hv
     rw[e] at hh ⊢
     simpa using hh
   have hvd:∀ c∈v,digB c=true:=fun x hx=>hd x (List.mem_append_left _ hx)
   rw[dec_step _ _ (numOf_pos hvd hv hv1) (by omega),dec_num n v hl hvd hv (.inr hv1),dig_back hc]
theorem dec_ok:∀ (u:Nat),(∀ c∈Lib.decDigits u,digB c=true)∧Lib.decDigits u≠[]∧(u < 10→(Lib.decDigits u).length=1)∧(0 < u→(Lib.decDigits u).head?≠some 48)∧numOf (Lib.decDigits u)=u:=by
 intro u
 induction u using Nat.strongRecOn with
 | _ u ih =>
  have hd:∀ d,d < 10→(UInt8.ofNat (48+d)).toNat=48+d:=fun d hd=>by rw[UInt8.toNat_ofNat']; omega
  by_cases h:u < 10
  ·rw[Lib.decDigits,dif_pos h]
   refine ⟨fun c hc=>?_,by simp,fun _=>rfl,fun h0 e=>?_,?_⟩
   ·rw[List.mem_singleton.1 hc,digB_iff,hd u h]; omega
   ·simp only[List.head?_cons,Option.some.injEq] at e
    have:=congrArg UInt8.toNat e
    rw[hd u h] at this
    have h48:(48:UInt8).toNat=48:=rfl
    omega
   ·show 10 * 0+((UInt8.ofNat (48+u)).toNat - 48)=u
    rw[hd u h]; omega
  ·obtain ⟨h1,h2,_,h4,h5⟩:=ih (u / 10) (by omega)
   rw[Lib.decDigits,dif_neg h]
   have hm:=hd (u % 10) (by omega)
   refine ⟨fun c hc=>?_,by simp,fun h0=>absurd h0 h,fun h0=>?_,?_⟩
   ·rcases List.mem_append.1 hc with hc|hc
    ·exact h1 c hc
    ·rw[List.mem_singleton.1 hc,digB_iff,hm]; omega
   ·obtain ⟨x,r,e⟩:=List.exists_cons_of_ne_nil h2
    have:=h4 (by omega)
    rw[e] at this ⊢
    simpa using this
   ·rw[numOf_append,h5,hm]; omega
theorem parse_num:∀ (w:List UInt8) (acc:Nat),(∀ c∈w,digB c=true)→w.length≤4→acc * 10 ^ w.length+10 ^ w.length≤100000→Lib.parseUint10 acc w=.ok (w.foldl (fun n c=>10 * n+(c.toNat - 48)) acc)
 | [],acc,hd,hl,ha=>rfl
 | c::w,acc,hd,hl,ha=>by
  have hc:=(digB_iff c).1 (hd c (.head _))
  have hp:1≤10 ^ w.length:=Nat.one_le_pow _ _ (by decide)
  rw[qN,Nat.pow_succ] at ha
  have hacc:acc≤100000:=by
   have:acc * 1≤acc * (10 ^ w.length * 10):=Nat.mul_le_mul_left _ (by omega)
   omega
  rw[Lib.parseUint10,if_pos hc,if_neg (by omega),if_neg (by omega),List.foldl_cons,Nat.mul_comm acc 10]
  refine parse_num w _ (fun x hx=>hd x (.tail _ hx)) (by simp at hl; omega) ?_
  have e:(10 * acc+(c.toNat - 48)) * 10 ^ w.length+10 ^ w.length≤acc * (10 ^ w.length * 10)+10 ^ w.length * 10:=by
   have e1:(10 * acc+(c.toNat - 48)) * 10 ^ w.length+10 ^ w.length=(10 * acc+(c.toNat - 48)+1) * 10 ^ w.length:=(Nat.succ_mul _ _).symm
   have e2:acc * (10 ^ w.length * 10)+10 ^ w.length * 10=(10 * acc+10) * 10 ^ w.length:=by
    rw[Nat.add_mul,Nat.mul_comm (10 ^ w.length) 10,← Nat.mul_assoc,Nat.mul_comm acc 10]
   rw[e1,e2]
   exact Nat.mul_le_mul_right _ (by omega)
  omega
theorem numOK_iff (w:List UInt8):numOK w=true↔w.length≤4∧(∀ c∈w,digB c=true)∧(w.length=1∨w.head?≠some 48):=by
 unfold numOK
 simp only[Bool.and_eq_true,Bool.or_eq_true,decide_eq_true_eq,List.all_eq_true]
 exact and_assoc
theorem foldl_lt:∀ (w:List UInt8) (acc:Nat),(∀ c∈w,digB c=true)→w.foldl (fun n c=>10 * n+(c.toNat - 48)) acc < acc * 10 ^ w.length+10 ^ w.length
 | [],acc,hd=>by simp
 | c::w,acc,hd=>by
  have hc:=(digB_iff c).1 (hd c (.head _))
  have h1:=foldl_lt w (10 * acc+(c.toNat - 48)) fun x hx=>hd x (.tail _ hx)
  have e1:(10 * acc+(c.toNat - 48)) * 10 ^ w.length+10 ^ w.length=(10 * acc+(c.toNat - 48)+1) * 10 ^ w.length:=(Nat.succ_mul _ _).symm
  have e2:acc * 10 ^ (c::w).length+10 ^ (c::w).length=(10 * acc+10) * 10 ^ w.length:=by
   rw[qN,Nat.pow_succ,Nat.add_mul,Nat.mul_comm (10 ^ w.length) 10,← Nat.mul_assoc,Nat.mul_comm acc 10]
  rw[List.foldl_cons,e2]
  have:=Nat.mul_le_mul_right (10 ^ w.length) (show 10 * acc+(c.toNat - 48)+1≤10 * acc+10 by omega)
  omega
theorem num_lt {w:List UInt8} (h:numOK w=true):numOf w < 10000:=by
 obtain ⟨h1,h2,_⟩:=(numOK_iff w).1 h
 have h3:=foldl_lt w 0 h2
 have h4:10 ^ w.length≤10 ^ 4:=Nat.pow_le_pow_right (by decide) h1
 unfold numOf
 omega
theorem num_yes {w:List UInt8} (h:numOK w=true) (h0:w≠[]):Lib.atoiAll w=.ok (numOf w:Int)∧Lib.itoa (numOf w)=w∧w.length≤4:=by
 obtain ⟨h1,h2,h3⟩:=(numOK_iff w).1 h
 refine ⟨?_,?_,h1⟩
 ·obtain ⟨c,r,rfl⟩:=List.exists_cons_of_ne_nil h0
  have hc:=(digB_iff c).1 (h2 c (.head _))
  have hlt:=num_lt h
  unfold Lib.atoiAll
  simp only
  rw[if_neg (by omega)]
  unfold Lib.parseMag
  rw[if_neg (by simp),parse_num (c::r) 0 h2 h1 (by
   have h4:10 ^ (c::r).length≤10 ^ 4:=Nat.pow_le_pow_right (by decide) h1
   omega)]
  simp only
  have e:List.foldl (fun n c=>10 * n+(c.toNat - 48)) 0 (c::r)=numOf (c::r):=rfl
  rw[e,if_neg (by omega),if_neg (by omega),if_neg (by omega)]
 ·unfold Lib.itoa
  rw[if_neg (by omega),Int.toNat_natCast]
  exact dec_num _ w rfl h2 h0 h3
theorem num_no {w:List UInt8} (h:¬ numOK w=true) (h4:w.length≤4) {v:Int} (h0:0≤v):Lib.itoa v≠w:=by
 intro e
 apply h
 unfold Lib.itoa at e
 rw[if_neg (by omega)] at e
 obtain ⟨h1,h2,h3,h5,_⟩:=dec_ok v.toNat
 rw[e] at h1 h2 h3 h5
 refine (numOK_iff w).2 ⟨h4,h1,?_⟩
 by_cases h6:v.toNat < 10
 ·exact .inl (h3 h6)
 ·exact .inr (h5 (by omega))
open Go Go.K Go.Shelf
def laysIdx_ren:Go.Shelf.Ren:=⟨fun|137=>71|217=>100|266=>118|n=>n,fun|9=>9|5=>5|3=>3|n=>n,fun|n=>n⟩
theorem laysIdx:Go.Proofs.Lays.n137 Tryz.prog laysIdx_ren:={
 mixed:=by kernel_rfl
 f137:=Tryz.func71.trans (congrArg some (by kernel_rfl))
 f217:=Tryz.func100.trans (congrArg some (by kernel_rfl))
 f266:=Tryz.func118.trans (congrArg some (by kernel_rfl))
 t3:=Tryz.underlying3
 a3:=Tryz.isAgg3
 z3:=Tryz.sizeOf3
 v3:=Tryz.zeroValue3
 t5:=Tryz.underlying5
 a5:=Tryz.isAgg5
 z5:=Tryz.sizeOf5
 v5:=Tryz.zeroValue5
 t9:=Tryz.underlying9
 a9:=Tryz.isAgg9
 z9:=Tryz.sizeOf9
 v9:=Tryz.zeroValue9 }
def laysAtoi_ren:Go.Shelf.Ren:=⟨fun|172=>120|244=>123|245=>124|247=>127|279=>128|280=>129|281=>130|282=>131|287=>137|316=>138|171=>121|205=>139|321=>145|322=>146|243=>125|246=>132|283=>133|284=>134|285=>135|286=>136|129=>141|317=>140|318=>142|319=>143|320=>144|337=>147|338=>148|n=>n,fun|9=>9|3=>3|75=>155|76=>156|4=>4|5=>5|167=>161|37=>108|0=>0|85=>162|2=>2|168=>164|53=>159|175=>173|46=>138|210=>177|127=>186|145=>189|143=>187|21=>21|171=>168|173=>171|212=>181|51=>182|20=>20|213=>183|232=>191|233=>192|80=>88|n=>n,fun|15=>2|16=>3|17=>4|18=>5|19=>6|n=>n⟩
theorem laysAtoi:Go.Proofs.LaysC.n172 Tryz.prog laysAtoi_ren:={
 mixed:=by kernel_rfl
 f129:=Tryz.func141.trans (congrArg some (by kernel_rfl))
 f171:=Tryz.func121.trans (congrArg some (by kernel_rfl))
 f172:=Tryz.func120.trans (congrArg some (by kernel_rfl))
 f205:=Tryz.func139.trans (congrArg some (by kernel_rfl))
 f243:=Tryz.func125.trans (congrArg some (by kernel_rfl))
 f244:=Tryz.func123.trans (congrArg some (by kernel_rfl))
 f245:=Tryz.func124.trans (congrArg some (by kernel_rfl))
 f246:=Tryz.func132.trans (congrArg some (by kernel_rfl))
 f247:=Tryz.func127.trans (congrArg some (by kernel_rfl))
 f279:=Tryz.func128.trans (congrArg some (by kernel_rfl))
 f280:=Tryz.func129.trans (congrArg some (by kernel_rfl))
 f281:=Tryz.func130.trans (congrArg some (by kernel_rfl))
 f282:=Tryz.func131.trans (congrArg some (by kernel_rfl))
 f283:=Tryz.func133.trans (congrArg some (by kernel_rfl))
 f284:=Tryz.func134.trans (congrArg some (by kernel_rfl))
 f285:=Tryz.func135.trans (congrArg some (by kernel_rfl))
 f286:=Tryz.func136.trans (congrArg some (by kernel_rfl))
 f287:=Tryz.func137.trans (congrArg some (by kernel_rfl))
 f316:=Tryz.func138.trans (congrArg some (by kernel_rfl))
 f317:=Tryz.func140.trans (congrArg some (by kernel_rfl))
 f318:=Tryz.func142.trans (congrArg some (by kernel_rfl))
 f319:=Tryz.func143.trans (congrArg some (by kernel_rfl))
 f320:=Tryz.func144.trans (congrArg some (by kernel_rfl))
 f321:=Tryz.func145.trans (congrArg some (by kernel_rfl))
 f322:=Tryz.func146.trans (congrArg some (by kernel_rfl))
 f337:=Tryz.func147.trans (congrArg some (by kernel_rfl))
 f338:=Tryz.func148.trans (congrArg some (by kernel_rfl))
 t0:=Tryz.underlying0
 a0:=Tryz.isAgg0
 z0:=Tryz.sizeOf0
 v0:=Tryz.zeroValue0
 t2:=Tryz.underlying2
 a2:=Tryz.isAgg2
 z2:=Tryz.sizeOf2
 v2:=Tryz.zeroValue2
 t3:=Tryz.underlying3
 a3:=Tryz.isAgg3
 z3:=Tryz.sizeOf3
 v3:=Tryz.zeroValue3
 t4:=Tryz.underlying4
 a4:=Tryz.isAgg4
 z4:=Tryz.sizeOf4
 v4:=Tryz.zeroValue4
 t5:=Tryz.underlying5
 a5:=Tryz.isAgg5
 z5:=Tryz.sizeOf5
 v5:=Tryz.zeroValue5
 t9:=Tryz.underlying9
 a9:=Tryz.isAgg9
 z9:=Tryz.sizeOf9
 v9:=Tryz.zeroValue9
 t20:=Tryz.underlying20
 a20:=Tryz.isAgg20
 z20:=Tryz.sizeOf20
 v20:=Tryz.zeroValue20
 t21:=Tryz.underlying21
 a21:=Tryz.isAgg21
 z21:=Tryz.sizeOf21
 v21:=Tryz.zeroValue21
 t37:=Tryz.underlying108
 a37:=Tryz.isAgg108
 z37:=Tryz.sizeOf108
 v37:=Tryz.zeroValue108
 t46:=Tryz.underlying138
 a46:=Tryz.isAgg138
 z46:=Tryz.sizeOf138
 v46:=Tryz.zeroValue138
 t51:=Tryz.underlying182
 a51:=Tryz.isAgg182
 z51:=Tryz.sizeOf182
 v51:=Tryz.zeroValue182
 t53:=Tryz.underlying159
 a53:=Tryz.isAgg159
 z53:=Tryz.sizeOf159
 v53:=Tryz.zeroValue159
 t75:=Tryz.underlying155
 a75:=Tryz.isAgg155
 z75:=Tryz.sizeOf155
 v75:=Tryz.zeroValue155
 t76:=Tryz.underlying156
 a76:=Tryz.isAgg156
 z76:=Tryz.sizeOf156
 v76:=Tryz.zeroValue156
 t85:=Tryz.underlying162
 a85:=Tryz.isAgg162
 z85:=Tryz.sizeOf162
 v85:=Tryz.zeroValue162
 t127:=Tryz.underlying186
 a127:=Tryz.isAgg186
 z127:=Tryz.sizeOf186
 v127:=Tryz.zeroValue186
 t143:=Tryz.underlying187
 a143:=Tryz.isAgg187
 z143:=Tryz.sizeOf187
 v143:=Tryz.zeroValue187
 t145:=Tryz.underlying189
 a145:=Tryz.isAgg189
 z145:=Tryz.sizeOf189
 v145:=Tryz.zeroValue189
 t167:=Tryz.underlying161
 a167:=Tryz.isAgg161
 z167:=Tryz.sizeOf161
 v167:=Tryz.zeroValue161
 t168:=Tryz.underlying164
 a168:=Tryz.isAgg164
 z168:=Tryz.sizeOf164
 v168:=Tryz.zeroValue164
 t171:=Tryz.underlying168
 a171:=Tryz.isAgg168
 z171:=Tryz.sizeOf168
 v171:=Tryz.zeroValue168
 t173:=Tryz.underlying171
 a173:=Tryz.isAgg171
 z173:=Tryz.sizeOf171
 v173:=Tryz.zeroValue171
 t175:=Tryz.underlying173
 a175:=Tryz.isAgg173
 z175:=Tryz.sizeOf173
 v175:=Tryz.zeroValue173
 t210:=Tryz.underlying177
 a210:=Tryz.isAgg177
 z210:=Tryz.sizeOf177
 v210:=Tryz.zeroValue177
 t212:=Tryz.underlying181
 a212:=Tryz.isAgg181
 z212:=Tryz.sizeOf181
 v212:=Tryz.zeroValue181
 t213:=Tryz.underlying183
 a213:=Tryz.isAgg183
 z213:=Tryz.sizeOf183
 t232:=Tryz.underlying191
 a232:=Tryz.isAgg191
 z232:=Tryz.sizeOf191
 v232:=Tryz.zeroValue191
 t233:=Tryz.underlying192
 a233:=Tryz.isAgg192
 z233:=Tryz.sizeOf192
 v233:=Tryz.zeroValue192
 g15:=by kernel_rfl
 g16:=by kernel_rfl
 g17:=by kernel_rfl
 g18:=by kernel_rfl
 g19:=by kernel_rfl
 t80:=Tryz.underlying88
 a80:=Tryz.isAgg88
 z80:=Tryz.sizeOf88
 v80:=Tryz.zeroValue88
 i0:=by kernel_rfl
 i2:=by kernel_rfl
 i3:=by kernel_rfl
 i4:=by kernel_rfl
 i5:=by kernel_rfl
 i9:=by kernel_rfl
 i20:=by kernel_rfl
 i21:=by kernel_rfl
 i37:=by kernel_rfl
 i46:=by kernel_rfl
 i51:=by kernel_rfl
 i53:=by kernel_rfl
 i75:=by kernel_rfl
 i76:=by kernel_rfl
 i80:=by kernel_rfl
 i85:=by kernel_rfl
 i127:=by kernel_rfl
 i143:=by kernel_rfl
 i145:=by kernel_rfl
 i167:=by kernel_rfl
 i168:=by kernel_rfl
 i171:=by kernel_rfl
 i173:=by kernel_rfl
 i175:=by kernel_rfl
 i210:=by kernel_rfl
 i212:=by kernel_rfl
 i232:=by kernel_rfl
 i233:=by kernel_rfl
 m15:=by kernel_rfl
 m16:=by kernel_rfl
 m17:=by kernel_rfl
 m18:=by kernel_rfl
 m19:=by kernel_rfl
 c0:=by kernel_rfl
 c2:=by kernel_rfl
 c3:=by kernel_rfl
 c4:=by kernel_rfl
 c5:=by kernel_rfl
 c9:=by kernel_rfl
 c20:=by kernel_rfl
 c21:=by kernel_rfl
 c37:=by kernel_rfl
 c46:=by kernel_rfl
 c51:=by kernel_rfl
 c53:=by kernel_rfl
 c75:=by kernel_rfl
 c76:=by kernel_rfl
 c80:=by kernel_rfl
 c85:=by kernel_rfl
 c127:=by kernel_rfl
 c143:=by kernel_rfl
 c145:=by kernel_rfl
 c167:=by kernel_rfl
 c168:=by kernel_rfl
 c171:=by kernel_rfl
 c173:=by kernel_rfl
 c175:=by kernel_rfl
 c210:=by kernel_rfl
 c212:=by kernel_rfl
 c213:=by kernel_rfl
 c232:=by kernel_rfl
 c233:=by kernel_rfl }
def laysItoa_ren:Go.Shelf.Ren:=⟨fun|171=>121|243=>125|246=>132|283=>133|284=>134|285=>135|286=>136|129=>141|317=>140|318=>142|319=>143|320=>144|337=>147|338=>148|n=>n,fun|3=>3|9=>9|2=>2|4=>4|171=>168|0=>0|53=>159|37=>108|5=>5|173=>171|212=>181|51=>182|20=>20|213=>183|46=>138|232=>191|233=>192|n=>n,fun|17=>4|18=>5|19=>6|n=>n⟩
theorem laysItoa:Go.Proofs.LaysM.n171 Tryz.prog laysItoa_ren:={
 mixed:=by kernel_rfl
 f129:=Tryz.func141.trans (congrArg some (by kernel_rfl))
 f171:=Tryz.func121.trans (congrArg some (by kernel_rfl))
 f243:=Tryz.func125.trans (congrArg some (by kernel_rfl))
 f246:=Tryz.func132.trans (congrArg some (by kernel_rfl))
 f283:=Tryz.func133.trans (congrArg some (by kernel_rfl))
 f284:=Tryz.func134.trans (congrArg some (by kernel_rfl))
 f285:=Tryz.func135.trans (congrArg some (by kernel_rfl))
 f286:=Tryz.func136.trans (congrArg some (by kernel_rfl))
 f317:=Tryz.func140.trans (congrArg some (by kernel_rfl))
 f318:=Tryz.func142.trans (congrArg some (by kernel_rfl))
 f319:=Tryz.func143.trans (congrArg some (by kernel_rfl))
 f320:=Tryz.func144.trans (congrArg some (by kernel_rfl))
 f337:=Tryz.func147.trans (congrArg some (by kernel_rfl))
 f338:=Tryz.func148.trans (congrArg some (by kernel_rfl))
 t0:=Tryz.underlying0
 a0:=Tryz.isAgg0
 z0:=Tryz.sizeOf0
 v0:=Tryz.zeroValue0
 t2:=Tryz.underlying2
 a2:=Tryz.isAgg2
 z2:=Tryz.sizeOf2
 v2:=Tryz.zeroValue2
 t3:=Tryz.underlying3
 a3:=Tryz.isAgg3
 z3:=Tryz.sizeOf3
 v3:=Tryz.zeroValue3
 t4:=Tryz.underlying4
 a4:=Tryz.isAgg4
 z4:=Tryz.sizeOf4
 v4:=Tryz.zeroValue4
 t5:=Tryz.underlying5
 a5:=Tryz.isAgg5
 z5:=Tryz.sizeOf5
 v5:=Tryz.zeroValue5
 t9:=Tryz.underlying9
 a9:=Tryz.isAgg9
 z9:=Tryz.sizeOf9
 v9:=Tryz.zeroValue9
 t20:=Tryz.underlying20
 a20:=Tryz.isAgg20
 z20:=Tryz.sizeOf20
 v20:=Tryz.zeroValue20
 t37:=Tryz.underlying108
 a37:=Tryz.isAgg108
 z37:=Tryz.sizeOf108
 v37:=Tryz.zeroValue108
 t46:=Tryz.underlying138
 a46:=Tryz.isAgg138
 z46:=Tryz.sizeOf138
 v46:=Tryz.zeroValue138
 t51:=Tryz.underlying182
 a51:=Tryz.isAgg182
 z51:=Tryz.sizeOf182
 v51:=Tryz.zeroValue182
 t53:=Tryz.underlying159
 a53:=Tryz.isAgg159
 z53:=Tryz.sizeOf159
 v53:=Tryz.zeroValue159
 t171:=Tryz.underlying168
 a171:=Tryz.isAgg168
 z171:=Tryz.sizeOf168
 v171:=Tryz.zeroValue168
 t173:=Tryz.underlying171
 a173:=Tryz.isAgg171
 z173:=Tryz.sizeOf171
 v173:=Tryz.zeroValue171
 t212:=Tryz.underlying181
 a212:=Tryz.isAgg181
 z212:=Tryz.sizeOf181
 v212:=Tryz.zeroValue181
 t213:=Tryz.underlying183
 a213:=Tryz.isAgg183
 z213:=Tryz.sizeOf183
 t232:=Tryz.underlying191
 a232:=Tryz.isAgg191
 z232:=Tryz.sizeOf191
 v232:=Tryz.zeroValue191
 t233:=Tryz.underlying192
 a233:=Tryz.isAgg192
 z233:=Tryz.sizeOf192
 v233:=Tryz.zeroValue192
 g17:=by kernel_rfl
 g18:=by kernel_rfl
 g19:=by kernel_rfl
 i0:=by kernel_rfl
 i2:=by kernel_rfl
 i3:=by kernel_rfl
 i4:=by kernel_rfl
 i5:=by kernel_rfl
 i9:=by kernel_rfl
 i20:=by kernel_rfl
 i37:=by kernel_rfl
 i46:=by kernel_rfl
 i51:=by kernel_rfl
 i53:=by kernel_rfl
 i171:=by kernel_rfl
 i173:=by kernel_rfl
 i212:=by kernel_rfl
 i232:=by kernel_rfl
 i233:=by kernel_rfl
 m17:=by kernel_rfl
 m18:=by kernel_rfl
 m19:=by kernel_rfl }
open Go Go.K
theorem indexByte_walk (w:World) (l:List UInt8) (c:UInt8):Calls Tryz.prog 71 #[str l,.int .u8 c.toNat] w (Rets w (Is (i64 (Lib.indexByte l c)))):=by
 have h:=Any.strings_IndexByte laysIdx ⟨l.toArray⟩ (c.toNat:Int) w
 refine h.mono ?_
 rintro e w' ⟨rfl,rfl⟩
 refine ⟨_,rfl,Sy.refl _,?_⟩
 show i64 (Lib.indexByte l (((c.toNat:Int).toNat).toUInt8))=_
 rw[Int.toNat_natCast,show (c.toNat.toUInt8)=c from UInt8.ofNat_toNat]
def LibAt (w:World):Prop:=Lib.TabIs Tryz.prog w "internal/strconv.uint64pow10" .u64 Lib.pow10Tab∧∀ g:Nat,g=2∨g=3→∃ ev,w.cell? ⟨g,0,none⟩=some ev∧(ev=.nilIface∨∃ te pe,ev=.iface te pe)
theorem LibAt.mono {w w':World} {L:Own} (h:LibAt w) (hs:Sy w L w') (hn:∀ p∈L,w.heap.size≤p.1):LibAt w':=by
 have hb:=(hs.end hn).below
 refine ⟨Lib.tabBelow_of_tabIs h.1 w' hb,fun g hg=>?_⟩
 obtain ⟨ev,h1,h2⟩:=h.2 g hg
 refine ⟨ev,?_,h2⟩
 have hlt:g < w.heap.size:=by
  rcases Nat.lt_or_ge g w.heap.size with h3|h3
  ·exact h3
  ·exfalso
   simp only[World.cell?,Array.getElem?_eq_none h3] at h1
   cases h1
 rw[← h1]
 simp only[World.cell?,hb.block g hlt]
theorem sy_grow (w:World) (k:Nat) (os:Array Obj):Sy w [] (Go.Sort.grow (w.drewN k) os):=by
 refine ⟨rfl,rfl,rfl,?_,by simp,by simp,fun j hj _=>?_⟩
 ·show w.heap.size≤(w.heap++os).size
  rw[Array.size_append]; omega
 ·show (w.heap++os)[j]?=w.heap[j]?
  rw[Array.getElem?_append_left hj]
theorem itoa_walk (w:World) (hl:LibAt w) (n:Int) (h0:0≤n) (h1:n≤9223372036854775807):Calls Tryz.prog 121 #[i64 n] w (Rets w (Is (str (Lib.itoa n)))):=by
 refine (Any.strconv_Itoa laysItoa n (by omega) h1 w hl.1).mono ?_
 rintro e w' ⟨rfl,k,os,rfl⟩
 exact ⟨_,rfl,sy_grow w k os,rfl⟩
def AtoiS (s:List UInt8) (v:Value):Prop:=(∃ n,Lib.atoiAll s=.ok n∧v=.tuple #[i64 n,.nilIface])∨((∀ n,Lib.atoiAll s≠.ok n)∧∃ n te pe,v=.tuple #[i64 n,.iface te pe])
theorem atoi_walk (w:World) (hl:LibAt w) (s:List UInt8) (hs:s.length≤1000000):Calls Tryz.prog 120 #[str s] w (Rets w fun v _=>AtoiS s v):=by
 cases h:Lib.atoiAll s
 ·rename_i n
  refine (Any.strconv_Atoi_ok laysAtoi ⟨s.toArray⟩ (by show s.toArray.size≤_; rw[List.size_toArray]; omega) n h w).mono ?_
  rintro e w' ⟨rfl,rfl|⟨t,rfl⟩⟩
  ·exact ⟨_,rfl,Sy.refl _,.inl ⟨n,h,rfl⟩⟩
  ·exact ⟨_,rfl,Sy.of_below (Go.Joins.below_bytesWorld _ w _ t (Nat.le_refl _)),.inl ⟨n,h,rfl⟩⟩
 ·obtain ⟨ev,h1,h2⟩:=hl.2 2 (.inl rfl)
  refine (Any.strconv_Atoi_syntax laysAtoi ⟨s.toArray⟩ (by show s.toArray.size≤_; rw[List.size_toArray]; omega) h ev w h1 h2).mono ?_
  rintro e w' ⟨N,rfl,_,_,hb⟩
  exact ⟨_,rfl,Sy.of_below hb,.inr ⟨fun n hn=>(by rw[h] at hn; cases hn),_,_,_,rfl⟩⟩
 ·obtain ⟨ev,h1,h2⟩:=hl.2 3 (.inr rfl)
  refine (Any.strconv_Atoi_range laysAtoi ⟨s.toArray⟩ (by show s.toArray.size≤_; rw[List.size_toArray]; omega) h ev w h1 h2).mono ?_
  rintro e w' ⟨N,rfl,_,_,hb⟩
  exact ⟨_,rfl,Sy.of_below hb,.inr ⟨fun n hn=>(by rw[h] at hn; cases hn),_,_,_,rfl⟩⟩
theorem blank_index (c:UInt8):0≤Lib.indexByte [32,9,10] c↔blankB c=true:=by
 by_cases h1:c=32
 ·subst h1; decide
 by_cases h2:c=9
 ·subst h2; decide
 by_cases h3:c=10
 ·subst h3; decide
 have e1:((32:UInt8) == c)=false:=by simpa using fun e=>h1 e.symm
 have e2:((9:UInt8) == c)=false:=by simpa using fun e=>h2 e.symm
 have e3:((10:UInt8) == c)=false:=by simpa using fun e=>h3 e.symm
 have e4:Lib.indexByte [32,9,10] c=-1:=by simp[Lib.indexByte,e1,e2,e3]
 rw[e4]
 unfold blankB
 simp[h1,h2,h3]
theorem fail_walk (w:World) (a:Value) (q:Nat):Calls Tryz.prog 73 #[a,i64 q] w (fun e w'=>e=.panicked [faultE q]∧Sy w [] w'):=by
 refine enterB (args:=[a,i64 q]) Tryz.func73 rfl Tryz.ntmps73 (congrArg Array.toList Tryz.results73) (by kernel_rfl) (by simp) (Sy.refl w) ?_
 refine sp ?_
 refine ⟨_,_,rfl,?_⟩
 refine sp ?_
 exact fun w' hw'=>hw'
end Go.Proofs.YtdmdgkpjjpijdaaGreatDoor
