/- YtdmdgkpjjpijdaaGreatDoor: walks, part 155: readers of texts: what they own, how their functions end. -/
import Derived.Test.YtdmdgkpjjpijdaaGreatDoorW150
import Derived.Test.YtdmdgkpjjpijdaaGreatDoorW116
import Derived.Lib.AtoiAll
import Derived.Lib.ItoaNum
namespace Go.Proofs.YtdmdgkpjjpijdaaGreatDoor
open Go Go.K
set_option maxRecDepth 100000
set_option linter.unusedVariables false
set_option linter.unusedSimpArgs false
set_option maxHeartbeats 4000000
abbrev oRd (rb : Nat) (s : List UInt8) (p : Nat) : Nat × Obj := (rb,Obj.cells #[str s,i64 p] 73 (0,0))
abbrev faultE (q : Nat) : PanicEntry := { v := .iface 69 (.agg #[i64 q]),recovered := false }
def PRet {α : Type} (wb : World) (rb : Nat) (s : List UInt8) (M : Own) (r : PR α) (S : α → Nat → Value → Own → Prop) (e : Ending) (w' : World) : Prop :=
  match r with
  | .ok x q => ∃ (v : Value) (p' : Nat) (K : Own),e = .returned v ∧ blP s p' = q ∧ p' ≤ s.length ∧ S x q v K ∧ (∀ b ∈ K,wb.heap.size ≤ b.1) ∧ Sy wb (oRd rb s p' :: (K ++ M)) w'
  | .no q => ∃ K : Own,e = .panicked [faultE q] ∧ (∀ b ∈ K,wb.heap.size ≤ b.1) ∧ Sy wb (K ++ M) w'
theorem PRet.leaf {α : Type} {wb w' : World} {rb : Nat} {s : List UInt8} {M : Own} {r : PR α} {S : α → Nat → Value → Own → Prop} {x : α} {q : Nat} (v : Value) (p' : Nat) (K : Own) (hr : r = .ok x q) (h1 : blP s p' = q) (h2 : p' ≤ s.length) (h3 : S x q v K) (h4 : ∀ b ∈ K,wb.heap.size ≤ b.1) (h5 : Sy wb (oRd rb s p' :: (K ++ M)) w') : PRet wb rb s M r S (.returned v) w' := by
  rw [hr]
  exact ⟨v,p',K,rfl,h1,h2,h3,h4,h5⟩
theorem PRet.fall {α : Type} {wb w' : World} {rb : Nat} {s : List UInt8} {M : Own} {r : PR α} {S : α → Nat → Value → Own → Prop} {q : Nat} (K : Own) (hr : r = .no q) (h4 : ∀ b ∈ K,wb.heap.size ≤ b.1) (h5 : Sy wb (K ++ M) w') : PRet wb rb s M r S (.panicked [faultE q]) w' := by
  rw [hr]
  exact ⟨K,rfl,h4,h5⟩
theorem callX_pr {P : Program} {α : Type} {wb : World} {L M : Own} {Kp : KP} {rb : Nat} {s : List UInt8} {r : PR α} {S : α → Nat → Value → Own → Prop} {f : FuncId} {args : Array Value} {K1 : Value → World → Own → Prop} (h : ∀ w,Sy wb L w → Calls P f args w (PRet wb rb s M r S))
    (hk : ∀ x q v p' K,r = .ok x q → blP s p' = q → p' ≤ s.length → S x q v K → (∀ b ∈ K,wb.heap.size ≤ b.1) → K1 v wb (oRd rb s p' :: (K ++ M)))
    (hp : ∀ q K,r = .no q → (∀ b ∈ K,wb.heap.size ≤ b.1) → Kp [faultE q] wb (K ++ M)) : CallX P f args wb L (tag K1) (tag Kp) := by
  cases r with
  | ok x q =>
    refine callX_pan (S := fun v L' => ∃ p' K,blP s p' = q ∧ p' ≤ s.length ∧ S x q v K ∧ (∀ b ∈ K,wb.heap.size ≤ b.1) ∧ L' = oRd rb s p' :: (K ++ M)) (SP := fun _ _ => False) (fun w hw => (h w hw).mono fun e w' hx => ?_) (fun v L' hx => ?_) (fun _ _ hx => hx.elim)
    · obtain ⟨v,p',K,rfl,h1,h2,h3,h4,h5⟩ := hx
      exact .inl ⟨v,_,rfl,h5,p',K,h1,h2,h3,h4,rfl⟩
    · obtain ⟨p',K,h1,h2,h3,h4,rfl⟩ := hx
      exact hk x q v p' K rfl h1 h2 h3 h4
  | no q =>
    refine callX_pan (S := fun _ _ => False) (SP := fun ch L' => ∃ K : Own,ch = [faultE q] ∧ (∀ b ∈ K,wb.heap.size ≤ b.1) ∧ L' = K ++ M) (fun w hw => (h w hw).mono fun e w' hx => ?_) (fun _ _ hx => hx.elim) (fun ch L' hx => ?_)
    · obtain ⟨K,rfl,h1,h2⟩ := hx
      exact .inr ⟨_,_,rfl,h2,K,rfl,h1,rfl⟩
    · obtain ⟨K,rfl,h1,rfl⟩ := hx
      exact hp q K rfl h1
mutual
def OwP : Sp → Own → Option Addr → Nat → Prop
  | .mk at_ kids,K,a,c => at_ ≤ 1000000 ∧ ((kids = [] ∧ a = none ∧ c = 0 ∧ K = []) ∨
      ∃ (b : Nat) (cs : List Value) (K' : Own),a = some ⟨b,0,none⟩ ∧ K = (b,Obj.cells cs.toArray 93 (0,0)) :: K' ∧ kids.length ≤ c ∧ c ≤ maxLen ∧ OwPK kids K' (cs.take (kids.length * 2)))
def OwPK : List Sp → Own → List Value → Prop
  | [],K,cs => K = [] ∧ cs = []
  | x :: l,K,cs => ∃ (K1 K2 : Own) (a : Option Addr) (c : Nat) (cs' : List Value),K = K1 ++ K2 ∧ cs = [i64 x.at_,.slice a x.kids.length c] ++ cs' ∧ OwP x K1 a c ∧ OwPK l K2 cs'
end
theorem OwP_iff (x : Sp) (K : Own) (a : Option Addr) (c : Nat) : OwP x K a c ↔ x.at_ ≤ 1000000 ∧ ((x.kids = [] ∧ a = none ∧ c = 0 ∧ K = []) ∨
      ∃ (b : Nat) (cs : List Value) (K' : Own),a = some ⟨b,0,none⟩ ∧ K = (b,Obj.cells cs.toArray 93 (0,0)) :: K' ∧ x.kids.length ≤ c ∧ c ≤ maxLen ∧ OwPK x.kids K' (cs.take (x.kids.length * 2))) := by
  cases x; rw [OwP]; rfl
abbrev OwPS (l : List Sp) (K : Own) (a : Option Addr) (c : Nat) : Prop := OwP (.mk 0 l) K a c
theorem OwPS_iff (l : List Sp) (K : Own) (a : Option Addr) (c : Nat) : OwPS l K a c ↔ ((l = [] ∧ a = none ∧ c = 0 ∧ K = []) ∨
      ∃ (b : Nat) (cs : List Value) (K' : Own),a = some ⟨b,0,none⟩ ∧ K = (b,Obj.cells cs.toArray 93 (0,0)) :: K' ∧ l.length ≤ c ∧ c ≤ maxLen ∧ OwPK l K' (cs.take (l.length * 2))) := by
  rw [OwPS,OwP]; simp
theorem OwP.toS {x : Sp} {K : Own} {a : Option Addr} {c : Nat} (h : OwP x K a c) : OwPS x.kids K a c := (OwPS_iff _ _ _ _).2 ((OwP_iff _ _ _ _).1 h).2
theorem OwPS.toP {x : Sp} {K : Own} {a : Option Addr} {c : Nat} (h : OwPS x.kids K a c) (hn : x.at_ ≤ 1000000) : OwP x K a c := (OwP_iff _ _ _ _).2 ⟨hn,(OwPS_iff _ _ _ _).1 h⟩
theorem OwPK.append {m : List Sp} {K2 : Own} {ds : List Value} (hd : OwPK m K2 ds) : ∀ {l : List Sp} {K1 : Own} {cs : List Value},OwPK l K1 cs → OwPK (l ++ m) (K1 ++ K2) (cs ++ ds)
  | [],K1,cs,h => by rw [OwPK] at h; obtain ⟨rfl,rfl⟩ := h; exact hd
  | f :: l,K1,cs,h => by
    rw [OwPK] at h
    obtain ⟨A,B,a,c,cs',rfl,rfl,h1,h2⟩ := h
    rw [List.cons_append,OwPK]
    exact ⟨A,B ++ K2,a,c,cs' ++ ds,by rw [List.append_assoc],by rw [List.append_assoc],h1,OwPK.append hd h2⟩
theorem OwPK.single {x : Sp} {K : Own} {a : Option Addr} {c : Nat} (h : OwP x K a c) : OwPK [x] K [i64 x.at_,.slice a x.kids.length c] := by
  rw [OwPK]
  exact ⟨K,[],a,c,[],by simp,by simp,h,by rw [OwPK]; exact ⟨rfl,rfl⟩⟩
theorem OwPK.nil : OwPK [] [] [] := by rw [OwPK]; exact ⟨rfl,rfl⟩
theorem OwPK.len : ∀ {l : List Sp} {K : Own} {cs : List Value},OwPK l K cs → cs.length = l.length * 2
  | [],K,cs,h => by rw [OwPK] at h; rw [h.2]; rfl
  | f :: l,K,cs,h => by
    rw [OwPK] at h
    obtain ⟨K1,K2,a,c,cs',_,rfl,_,h2⟩ := h
    have := OwPK.len h2
    simp only [List.length_append,List.length_cons,List.length_nil,this]
    omega
theorem OwPK.get {x : Sp} : ∀ {l : List Sp} {K : Own} {cs : List Value} (i : Nat),OwPK l K cs → l[i]? = some x → ∃ (K1 : Own) (a : Option Addr) (c : Nat),(∀ p ∈ K1,p ∈ K) ∧ OwP x K1 a c ∧ cs[i * 2]? = some (i64 x.at_) ∧ cs[i * 2 + 1]? = some (.slice a x.kids.length c)
  | [],_,_,i,_,hi => by simp at hi
  | y :: l,K,cs,0,h,hi => by
    simp only [List.getElem?_cons_zero,Option.some.injEq] at hi
    subst hi
    rw [OwPK] at h
    obtain ⟨K1,K2,a,c,cs',rfl,rfl,h1,h2⟩ := h
    exact ⟨K1,a,c,fun p hp => List.mem_append_left _ hp,h1,rfl,rfl⟩
  | y :: l,K,cs,i + 1,h,hi => by
    simp only [List.getElem?_cons_succ] at hi
    rw [OwPK] at h
    obtain ⟨K1,K2,a,c,cs',rfl,rfl,h1,h2⟩ := h
    obtain ⟨K3,a3,c3,q1,q2,q3,q4⟩ := OwPK.get i h2 hi
    refine ⟨K3,a3,c3,fun p hp => List.mem_append_right _ (q1 p hp),q2,?_,?_⟩
    · rw [show (i + 1) * 2 = i * 2 + 2 by omega]; exact q3
    · rw [show (i + 1) * 2 + 1 = i * 2 + 1 + 2 by omega]; exact q4
def OwN (nt : List NoteQ) (K : Own) (a : Option Addr) (c : Nat) : Prop := (nt = [] ∧ a = none ∧ c = 0 ∧ K = []) ∨
  ∃ (b : Nat) (cs : List Value),a = some ⟨b,0,none⟩ ∧ K = [(b,Obj.cells cs.toArray 90 (0,0))] ∧ nt.length ≤ c ∧ c ≤ maxLen ∧ cs.length = c * 2 ∧ cs.take (nt.length * 2) = nt.flatMap fun n => [str n.1,str n.2]
end Go.Proofs.YtdmdgkpjjpijdaaGreatDoor
namespace Go.Proofs.YtdmdgkpjjpijdaaGreatDoor
open Go Go.K
set_option maxRecDepth 100000
set_option linter.unusedVariables false
set_option linter.unusedSimpArgs false
theorem numOf_append (w : List UInt8) (c : UInt8) : numOf (w ++ [c]) = 10 * numOf w + (c.toNat - 48) := by unfold numOf; rw [List.foldl_append]; rfl
theorem digB_iff (c : UInt8) : digB c = true ↔ 48 ≤ c.toNat ∧ c.toNat ≤ 57 := by unfold digB; simp
theorem foldl_pos : ∀ (w : List UInt8) (n : Nat),0 < n → 0 < w.foldl (fun n c => 10 * n + (c.toNat - 48)) n
  | [],n,h => h
  | c :: w,n,h => foldl_pos w _ (by show 0 < 10 * n + (c.toNat - 48); omega)
theorem numOf_pos {w : List UInt8} (hd : ∀ c ∈ w,digB c = true) (h0 : w ≠ []) (hh : w.head? ≠ some 48) : 0 < numOf w := by
  cases w with
  | nil => exact absurd rfl h0
  | cons c w =>
    unfold numOf
    rw [List.foldl_cons]
    refine foldl_pos w _ ?_
    have h1 := (digB_iff c).1 (hd c (.head _))
    have h2 : c.toNat ≠ 48 := fun e => hh (by rw [List.head?_cons]; congr 1; exact UInt8.toNat_inj.1 e)
    omega
theorem dig_back {c : UInt8} (h : digB c = true) : UInt8.ofNat (48 + (c.toNat - 48)) = c := by
  have h1 := (digB_iff c).1 h
  rw [show 48 + (c.toNat - 48) = c.toNat by omega]
  exact UInt8.ofNat_toNat
theorem dec_step (n d : Nat) (hn : 0 < n) (hd : d < 10) : Lib.decDigits (10 * n + d) = Lib.decDigits n ++ [UInt8.ofNat (48 + d)] := by
  rw [Lib.decDigits,dif_neg (by omega),show (10 * n + d) / 10 = n by omega,show (10 * n + d) % 10 = d by omega]
theorem dec_num : ∀ (n : Nat) (w : List UInt8),w.length = n → (∀ c ∈ w,digB c = true) → w ≠ [] → (w.length = 1 ∨ w.head? ≠ some 48) → Lib.decDigits (numOf w) = w
  | 0,w,hn,hd,h0,hh => absurd (List.eq_nil_of_length_eq_zero hn) h0
  | n + 1,w,hn,hd,h0,hh => by
    obtain ⟨v,c,rfl⟩ : ∃ v c,w = v ++ [c] := ⟨w.dropLast,w.getLast h0,(List.dropLast_concat_getLast h0).symm⟩
    have hc := hd c (by simp)
    have hc2 := (digB_iff c).1 hc
    rw [numOf_append]
    by_cases hv : v = []
    · subst hv
      rw [show numOf [] = 0 from rfl,Nat.mul_zero,Nat.zero_add,Lib.decDigits,dif_pos (by omega),dig_back hc]
      rfl
    · have hl : v.length = n := by simp at hn; omega
      have hv1 : v.head? ≠ some 48 := by
        rcases hh with hh | hh
        · have : 0 < v.length := List.length_pos_iff.2 hv
          rw [List.length_append,List.length_singleton] at hh
          omega
        · obtain ⟨x,r,e⟩ := List.exists_cons_of_ne_nil hv
          rw [e] at hh ⊢
          simpa using hh
      have hvd : ∀ c ∈ v,digB c = true := fun x hx => hd x (List.mem_append_left _ hx)
      rw [dec_step _ _ (numOf_pos hvd hv hv1) (by omega),dec_num n v hl hvd hv (.inr hv1),dig_back hc]
theorem dec_ok : ∀ (u : Nat),(∀ c ∈ Lib.decDigits u,digB c = true) ∧ Lib.decDigits u ≠ [] ∧ (u < 10 → (Lib.decDigits u).length = 1) ∧ (0 < u → (Lib.decDigits u).head? ≠ some 48) ∧ numOf (Lib.decDigits u) = u := by
  intro u
  induction u using Nat.strongRecOn with
  | _ u ih =>
    have hd : ∀ d,d < 10 → (UInt8.ofNat (48 + d)).toNat = 48 + d := fun d hd => by rw [UInt8.toNat_ofNat']; omega
    by_cases h : u < 10
    · rw [Lib.decDigits,dif_pos h]
      refine ⟨fun c hc => ?_,by simp,fun _ => rfl,fun h0 e => ?_,?_⟩
      · rw [List.mem_singleton.1 hc,digB_iff,hd u h]; omega
      · simp only [List.head?_cons,Option.some.injEq] at e
        have := congrArg UInt8.toNat e
        rw [hd u h] at this
        have h48 : (48 : UInt8).toNat = 48 := rfl
        omega
      · show 10 * 0 + ((UInt8.ofNat (48 + u)).toNat - 48) = u
        rw [hd u h]; omega
    · obtain ⟨h1,h2,_,h4,h5⟩ := ih (u / 10) (by omega)
      rw [Lib.decDigits,dif_neg h]
      have hm := hd (u % 10) (by omega)
      refine ⟨fun c hc => ?_,by simp,fun h0 => absurd h0 h,fun h0 => ?_,?_⟩
      · rcases List.mem_append.1 hc with hc | hc
        · exact h1 c hc
        · rw [List.mem_singleton.1 hc,digB_iff,hm]; omega
      · obtain ⟨x,r,e⟩ := List.exists_cons_of_ne_nil h2
        have := h4 (by omega)
        rw [e] at this ⊢
        simpa using this
      · rw [numOf_append,h5,hm]; omega
theorem parse_num : ∀ (w : List UInt8) (acc : Nat),(∀ c ∈ w,digB c = true) → w.length ≤ 4 → acc * 10 ^ w.length + 10 ^ w.length ≤ 100000 → Lib.parseUint10 acc w = .ok (w.foldl (fun n c => 10 * n + (c.toNat - 48)) acc)
  | [],acc,hd,hl,ha => rfl
  | c :: w,acc,hd,hl,ha => by
    have hc := (digB_iff c).1 (hd c (.head _))
    have hp : 1 ≤ 10 ^ w.length := Nat.one_le_pow _ _ (by decide)
    rw [List.length_cons,Nat.pow_succ] at ha
    have hacc : acc ≤ 100000 := by
      have : acc * 1 ≤ acc * (10 ^ w.length * 10) := Nat.mul_le_mul_left _ (by omega)
      omega
    rw [Lib.parseUint10,if_pos hc,if_neg (by omega),if_neg (by omega),List.foldl_cons,Nat.mul_comm acc 10]
    refine parse_num w _ (fun x hx => hd x (.tail _ hx)) (by simp at hl; omega) ?_
    have e : (10 * acc + (c.toNat - 48)) * 10 ^ w.length + 10 ^ w.length ≤ acc * (10 ^ w.length * 10) + 10 ^ w.length * 10 := by
      have e1 : (10 * acc + (c.toNat - 48)) * 10 ^ w.length + 10 ^ w.length = (10 * acc + (c.toNat - 48) + 1) * 10 ^ w.length := (Nat.succ_mul _ _).symm
      have e2 : acc * (10 ^ w.length * 10) + 10 ^ w.length * 10 = (10 * acc + 10) * 10 ^ w.length := by
        rw [Nat.add_mul,Nat.mul_comm (10 ^ w.length) 10,← Nat.mul_assoc,Nat.mul_comm acc 10]
      rw [e1,e2]
      exact Nat.mul_le_mul_right _ (by omega)
    omega
theorem numOK_iff (w : List UInt8) : numOK w = true ↔ w.length ≤ 4 ∧ (∀ c ∈ w,digB c = true) ∧ (w.length = 1 ∨ w.head? ≠ some 48) := by
  unfold numOK
  simp only [Bool.and_eq_true,Bool.or_eq_true,decide_eq_true_eq,List.all_eq_true]
  exact and_assoc
theorem foldl_lt : ∀ (w : List UInt8) (acc : Nat),(∀ c ∈ w,digB c = true) → w.foldl (fun n c => 10 * n + (c.toNat - 48)) acc < acc * 10 ^ w.length + 10 ^ w.length
  | [],acc,hd => by simp
  | c :: w,acc,hd => by
    have hc := (digB_iff c).1 (hd c (.head _))
    have h1 := foldl_lt w (10 * acc + (c.toNat - 48)) fun x hx => hd x (.tail _ hx)
    have e1 : (10 * acc + (c.toNat - 48)) * 10 ^ w.length + 10 ^ w.length = (10 * acc + (c.toNat - 48) + 1) * 10 ^ w.length := (Nat.succ_mul _ _).symm
    have e2 : acc * 10 ^ (c :: w).length + 10 ^ (c :: w).length = (10 * acc + 10) * 10 ^ w.length := by
      rw [List.length_cons,Nat.pow_succ,Nat.add_mul,Nat.mul_comm (10 ^ w.length) 10,← Nat.mul_assoc,Nat.mul_comm acc 10]
    rw [List.foldl_cons,e2]
    have := Nat.mul_le_mul_right (10 ^ w.length) (show 10 * acc + (c.toNat - 48) + 1 ≤ 10 * acc + 10 by omega)
    omega
theorem num_lt {w : List UInt8} (h : numOK w = true) : numOf w < 10000 := by
  obtain ⟨h1,h2,_⟩ := (numOK_iff w).1 h
  have h3 := foldl_lt w 0 h2
  have h4 : 10 ^ w.length ≤ 10 ^ 4 := Nat.pow_le_pow_right (by decide) h1
  unfold numOf
  omega
theorem num_yes {w : List UInt8} (h : numOK w = true) (h0 : w ≠ []) : Lib.atoiAll w = .ok (numOf w : Int) ∧ Lib.itoa (numOf w) = w ∧ w.length ≤ 4 := by
  obtain ⟨h1,h2,h3⟩ := (numOK_iff w).1 h
  refine ⟨?_,?_,h1⟩
  · obtain ⟨c,r,rfl⟩ := List.exists_cons_of_ne_nil h0
    have hc := (digB_iff c).1 (h2 c (.head _))
    have hlt := num_lt h
    unfold Lib.atoiAll
    simp only
    rw [if_neg (by omega)]
    unfold Lib.parseMag
    rw [if_neg (by simp),parse_num (c :: r) 0 h2 h1 (by
      have h4 : 10 ^ (c :: r).length ≤ 10 ^ 4 := Nat.pow_le_pow_right (by decide) h1
      omega)]
    simp only
    have e : List.foldl (fun n c => 10 * n + (c.toNat - 48)) 0 (c :: r) = numOf (c :: r) := rfl
    rw [e,if_neg (by omega),if_neg (by omega),if_neg (by omega)]
  · unfold Lib.itoa
    rw [if_neg (by omega),Int.toNat_natCast]
    exact dec_num _ w rfl h2 h0 h3
theorem num_no {w : List UInt8} (h : ¬ numOK w = true) (h4 : w.length ≤ 4) {v : Int} (h0 : 0 ≤ v) : Lib.itoa v ≠ w := by
  intro e
  apply h
  unfold Lib.itoa at e
  rw [if_neg (by omega)] at e
  obtain ⟨h1,h2,h3,h5,_⟩ := dec_ok v.toNat
  rw [e] at h1 h2 h3 h5
  refine (numOK_iff w).2 ⟨h4,h1,?_⟩
  by_cases h6 : v.toNat < 10
  · exact .inl (h3 h6)
  · exact .inr (h5 (by omega))
end Go.Proofs.YtdmdgkpjjpijdaaGreatDoor
