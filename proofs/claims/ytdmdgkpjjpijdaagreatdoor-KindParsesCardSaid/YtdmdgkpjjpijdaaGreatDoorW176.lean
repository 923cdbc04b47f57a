/- YtdmdgkpjjpijdaaGreatDoor: walks, part 176: a text as a schema. -/
import Derived.Test.YtdmdgkpjjpijdaaGreatDoorW175
namespace Go.Proofs.YtdmdgkpjjpijdaaGreatDoor
open Go Go.K
set_option maxRecDepth 100000
set_option linter.unusedVariables false
set_option linter.unusedSimpArgs false
set_option maxHeartbeats 4000000
def PsV (r : PS) (v : Value) (M : Own) : Prop := ∃ (a : Option Addr) (c : Nat) (na : Option Addr) (nc : Nat) (K1 K2 R : Own),v = .tuple #[.agg #[.slice a r.l.length c,.slice na r.nt.length nc],i64 r.e,i64 r.at_] ∧ M = K1 ++ (K2 ++ R) ∧ OwS r.l K1 a c ∧ OwN r.nt K2 na nc
theorem pRest_len {s : List UInt8} : ∀ (m p : Nat) (l : List UInt8) (r : Nat),pRest s m p = .ok l r → l.length ≤ m
  | 0,p,l,r,h => by cases h
  | m + 1,p,l,r,h => by
    rw [pRest] at h
    split at h
    · cases h
    split at h
    · cases h; exact Nat.zero_le _
    split at h
    · obtain ⟨x,r1,h1,h2⟩ := PR.and_eq_ok h
      obtain ⟨l2,r2,h3,h4⟩ := PR.and_eq_ok h2
      cases h4
      have := pRest_len m _ _ _ h3
      simp only [List.length_cons]
      omega
    split at h
    · obtain ⟨l2,r2,h3,h4⟩ := PR.and_eq_ok h
      cases h4
      have := pRest_len m _ _ _ h3
      simp only [List.length_cons]
      omega
    · cases h
theorem pQuote_len {s : List UInt8} {q : Nat} {l : List UInt8} {r : Nat} (h : pQuote s q = .ok l r) : l.length ≤ s.length + 1 := by
  unfold pQuote at h
  split at h
  · obtain ⟨l2,r2,h3,h4⟩ := PR.and_eq_ok h
    cases h4
    exact pRest_len _ _ _ _ h3
  · cases h
theorem pNotes_len {s : List UInt8} : ∀ (m q : Nat) (nt : List NoteQ) (r : Nat),pNotes s m q = .ok nt r → ∀ n ∈ nt,n.1.length ≤ s.length + 1 ∧ n.2.length ≤ s.length + 1
  | 0,q,nt,r,h => by cases h
  | m + 1,q,nt,r,h => by
    rw [pNotes] at h
    obtain ⟨k,r1,h1,h2⟩ := PR.and_eq_ok h
    obtain ⟨t,r2,h3,h4⟩ := PR.and_eq_ok h2
    have hk := pQuote_len h1
    have ht := pQuote_len h3
    split at h4
    · cases h4
      intro n hn
      rw [List.mem_singleton.1 hn]
      exact ⟨hk,ht⟩
    · obtain ⟨l,r3,h5,h6⟩ := PR.and_eq_ok h4
      cases h6
      intro n hn
      rcases List.mem_cons.1 hn with rfl | hn
      · exact ⟨hk,ht⟩
      · exact pNotes_len m _ _ _ h5 n hn
theorem pTail_len {s : List UInt8} {q : Nat} {nt : List NoteQ} {r : Nat} (h : pTail s q = .ok nt r) : ∀ n ∈ nt,n.1.length ≤ s.length + 1 ∧ n.2.length ≤ s.length + 1 := by
  unfold pTail at h
  split at h
  · exact pNotes_len _ _ _ _ h
  · cases h; intro n hn; cases hn
theorem OwN.le {nt : List NoteQ} {K : Own} {a : Option Addr} {c : Nat} (h : OwN nt K a c) : nt.length ≤ c ∧ c ≤ 9223372036854775807 := by
  rcases h with ⟨rfl,rfl,rfl,rfl⟩ | ⟨b,cs,_,_,h1,h2,_⟩
  · exact ⟨Nat.le_refl _,Nat.zero_le _⟩
  · exact ⟨h1,Nat.le_trans h2 (by decide)⟩
theorem OwN.rdn {nt : List NoteQ} {K L : Own} {a : Option Addr} {c : Nat} {wb w : World} (h : OwN nt K a c) (hl : ∀ n ∈ nt,n.1.length ≤ 9223372036854775807 ∧ n.2.length ≤ 9223372036854775807) (hw : Sy wb L w) (hK : ∀ p ∈ K,p ∈ L) : RdN w w.heap.size a nt := by
  rcases h with ⟨rfl,rfl,rfl,rfl⟩ | ⟨b,cs,rfl,rfl,h1,h2,h3,h4⟩
  · exact .inl rfl
  refine .inr ⟨b,0,rfl,hw.lt (hK _ (.head _)),fun i n hi => ?_⟩
  have hn := List.mem_of_getElem? hi
  refine ⟨(hl n hn).1,(hl n hn).2,At.of_own hw (hK _ (.head _)) ?_⟩
  have hi2 : i < nt.length := (List.getElem?_eq_some_iff.1 hi).1
  have h5 : ((cs.take (nt.length * 2)).drop (i * 2)).take 2 = [str n.1,str n.2] := by
    rw [h4]
    clear h4 h3 h2 h1 hK hl hn
    induction nt generalizing i with
    | nil => cases hi
    | cons x l ih =>
      cases i with
      | zero => cases hi; rfl
      | succ i =>
        have := ih (i := i) (by simpa using hi) (by simpa using hi2)
        simpa [Nat.succ_mul,List.flatMap_cons] using this
  rw [List.drop_take,List.take_take] at h5
  rw [show min 2 (nt.length * 2 - i * 2) = 2 by omega] at h5
  simpa using h5
theorem check_xs (wb w' : World) (hs : SaysAt wb) (L : Own) (xs : List Fz) (nt : List NoteQ) (a : Option Addr) (c : Nat) (na : Option Addr) (nc : Nat) (K1 K3 : Own) (hw' : Sy wb L w') (hL : ∀ b ∈ L,wb.heap.size ≤ b.1) (hO1 : OwS (xs.map (·.1)) K1 a c) (hO3 : OwN nt K3 na nc) (h1 : ∀ p ∈ K1,p ∈ L) (h3 : ∀ p ∈ K3,p ∈ L) (hnl : ∀ n ∈ nt,n.1.length ≤ 9223372036854775807 ∧ n.2.length ≤ 9223372036854775807) :
    Calls Tryz.prog 17 #[.agg #[.slice a xs.length c,.slice na nt.length nc]] w' (RetsN w' (fun v M => wrongFault v M (checkP (xs.map (·.1)) nt))) := by
  have h := check_walk w' (hs.mono hw' hL) w'.heap.size (Nat.le_refl _) (xs.map (·.1)) a c (hO1.rd hw' h1) hO1.le.1 hO1.le.2 nt na nc (hO3.rdn hnl hw' h3) hO3.le.1 hO3.le.2
  rw [List.length_map] at h
  exact h
theorem pHead_like {s : List UInt8} {q r : Nat} {xs : List Fz} (h : pHead s q = .ok xs r) : ∀ x ∈ xs,Like x.1 x.2 := by
  unfold pHead at h
  split at h
  · exact pMany_like (pField_like s _) _ _ _ _ h
  · cases h; intro x hx; cases hx
theorem natsAt_row {w wb : World} {L M : Own} {pa : Option Addr} {pc : Nat} {l : List Nat} (hw : Sy wb L w) (hM : ∀ p ∈ M,p ∈ L) (h : RowIn M 3 (.slice pa l.length pc) l.length (ints l)) : NatsAt w pa l ∧ l.length ≤ 9223372036854775807 := by
  obtain ⟨_,⟨h1,h2⟩ | ⟨b,cap,cs,h1,h2,h3,h4,h5,h6⟩⟩ := h
  · exact ⟨.inl (List.eq_nil_of_length_eq_zero h2),by omega⟩
  · injection h1 with he1 he2 he3
    subst he1; subst he3
    refine ⟨.inr ⟨b,0,rfl,fun i n hi => At.of_own hw (hM _ h2) ?_⟩,by simp only [maxLen] at h4; omega⟩
    have h7 : (ints l)[i]? = some (i64 n) := by
      simp only [ints,List.getElem?_map,hi]
      rfl
    rw [← h6,List.getElem?_take] at h7
    split at h7
    · rename_i hlt
      simp only [List.length_singleton]
      rw [Nat.zero_add,List.take_one,List.head?_drop,h7]
      rfl
    · cases h7
theorem found_xs (wb w' : World) (L : Own) (xs : List Fz) (nt : List NoteQ) (a2 : Option Addr) (c2 : Nat) (K2 : Own) {M8 : Own} {pa : Option Addr} {pc : Nat} {path : List Nat} (hO2 : OwPS (xs.map (·.2)) K2 a2 c2) (hw' : Sy wb L w') (h2 : ∀ p ∈ K2,p ∈ L) (h8 : ∀ p ∈ M8,p ∈ L) (hrow : RowIn M8 3 (.slice pa path.length pc) path.length (ints path)) (hok : okW (xs.map (·.2)) path) :
    Calls Tryz.prog 40 #[.slice a2 xs.length c2,.slice pa path.length pc] w' (Rets w' (Is (i64 (foundP (xs.map (·.2)) path 0)))) := by
  have hn := natsAt_row hw' h8 hrow
  have h := found_walk w' K2 (HasK.of_sy hw' h2) (xs.map (·.2)) a2 c2 hO2 pa path pc hn.1 hn.2 hok
  rw [List.length_map] at h
  exact h
theorem own_nil : OwS [] [] none 0 := (OwS_iff _ _ _ _).2 (.inl ⟨rfl,rfl,rfl,rfl⟩)
theorem ownN_nil : OwN [] [] none 0 := .inl ⟨rfl,rfl,rfl,rfl⟩
structure PhI (w : World) (t : List UInt8) (b2 b3 b4 b5 q0 : Nat) (ds0 : List Deferred) (wb : World) (e : Env) (ds : List Deferred) (L : Own) : Prop where
  hw : wb = w
  hds : ds = ds0
  h2 : e 2 = .pointer (some ⟨b2,0,none⟩)
  h3 : e 3 = .pointer (some ⟨b3,0,none⟩)
  h4 : e 4 = .pointer (some ⟨b4,0,none⟩)
  h5 : e 5 = .pointer (some ⟨b5,0,none⟩)
  o : ∃ (xs : List Fz) (p1 : Nat) (a : Option Addr) (c : Nat) (a2 : Option Addr) (c2 : Nat) (K1 K2 : Own),pHead t q0 = .ok xs (blP t p1) ∧ p1 ≤ t.length ∧ e 6 = .slice a2 xs.length c2 ∧ OwS (xs.map (·.1)) K1 a c ∧ OwPS (xs.map (·.2)) K2 a2 c2 ∧ (∀ b ∈ K1 ++ K2,w.heap.size ≤ b.1) ∧
    ∀ w',Sy w L w' → Sy w (oRd b5 t p1 :: (oSc b2 (.slice a xs.length c) (.slice none 0 0) :: oIn b4 0 :: oEr b3 0 :: (K1 ++ K2))) w'
structure P9 (w : World) (t : List UInt8) (b2 b3 b4 b5 q0 : Nat) (ds0 : List Deferred) (wb : World) (e : Env) (ds : List Deferred) (L : Own) : Prop where
  hw : wb = w
  hds : ds = ds0
  h2 : e 2 = .pointer (some ⟨b2,0,none⟩)
  h3 : e 3 = .pointer (some ⟨b3,0,none⟩)
  h4 : e 4 = .pointer (some ⟨b4,0,none⟩)
  h5 : e 5 = .pointer (some ⟨b5,0,none⟩)
  o : ∃ (xs : List Fz) (q p2 : Nat) (y : Bool) (a : Option Addr) (c : Nat) (a2 : Option Addr) (c2 : Nat) (K1 K2 : Own),pHead t q0 = .ok xs q ∧ e 40 = .bool y ∧ (y = true → pSign t 124 q = some (blP t p2)) ∧ (y = false → pSign t 124 q = none ∧ blP t p2 = q) ∧ p2 ≤ t.length ∧ e 6 = .slice a2 xs.length c2 ∧ OwS (xs.map (·.1)) K1 a c ∧ OwPS (xs.map (·.2)) K2 a2 c2 ∧ (∀ b ∈ K1 ++ K2,w.heap.size ≤ b.1) ∧
    L = oRd b5 t p2 :: (oSc b2 (.slice a xs.length c) (.slice none 0 0) :: oIn b4 0 :: oEr b3 0 :: (K1 ++ K2))
structure PntI (w : World) (t : List UInt8) (b2 b3 b4 b5 q0 : Nat) (ds0 : List Deferred) (wb : World) (e : Env) (ds : List Deferred) (L : Own) : Prop where
  hw : wb = w
  hds : ds = ds0
  h2 : e 2 = .pointer (some ⟨b2,0,none⟩)
  h3 : e 3 = .pointer (some ⟨b3,0,none⟩)
  h4 : e 4 = .pointer (some ⟨b4,0,none⟩)
  h5 : e 5 = .pointer (some ⟨b5,0,none⟩)
  o : ∃ (xs : List Fz) (nt : List NoteQ) (q p3 : Nat) (a : Option Addr) (c : Nat) (a2 : Option Addr) (c2 : Nat) (na : Option Addr) (nc : Nat) (K1 K2 K3 : Own),pHead t q0 = .ok xs q ∧ pTail t q = .ok nt (blP t p3) ∧ p3 ≤ t.length ∧ e 6 = .slice a2 xs.length c2 ∧ OwS (xs.map (·.1)) K1 a c ∧ OwPS (xs.map (·.2)) K2 a2 c2 ∧ OwN nt K3 na nc ∧ (∀ b ∈ (K1 ++ K2) ++ K3,w.heap.size ≤ b.1) ∧
    ∀ w',Sy w L w' → Sy w (oRd b5 t p3 :: (oSc b2 (.slice a xs.length c) (.slice na nt.length nc) :: oIn b4 0 :: oEr b3 0 :: (K1 ++ (K3 ++ K2)))) w'
structure P7 (w : World) (t : List UInt8) (b2 b3 b4 b5 q0 : Nat) (ds0 : List Deferred) (L0 : Own) (wb : World) (e : Env) (ds : List Deferred) (L : Own) : Prop where
  hw : wb = w
  hds : ds = ds0
  h2 : e 2 = .pointer (some ⟨b2,0,none⟩)
  h3 : e 3 = .pointer (some ⟨b3,0,none⟩)
  h4 : e 4 = .pointer (some ⟨b4,0,none⟩)
  h5 : e 5 = .pointer (some ⟨b5,0,none⟩)
  h6 : e 6 = .slice none 0 0
  h32 : e 32 = .bool (decide (q0 < t.length ∧ t[q0]? ≠ some 124))
  hL : L = L0
theorem parse_walk (w : World) (hs : SaysAt w) (hl : LibAt w) (t : List UInt8) (ht : t.length ≤ 9223372036854775807) :
    Calls Tryz.prog 6 #[str t] w (RetsN w (PsV (parseP t))) := by
  refine enterD (args := [str t]) Tryz.func6 rfl Tryz.ntmps6 (congrArg Array.toList Tryz.results6) (by kernel_rfl) (by simp) (Sy.refl w) ?_
  simp (disch:=omega) only[push_cast,Nat.reduceEqDiff]
  refine newI (fun b2 hb2 hn2 => ?_)
  simp (disch:=omega) only[push_cast,Nat.reduceEqDiff]
  refine newI (fun b3 hb3 hn3 => ?_)
  simp (disch:=omega) only[push_cast,Nat.reduceEqDiff]
  refine newI (fun b4 hb4 hn4 => ?_)
  simp (disch:=omega) only[push_cast,Nat.reduceEqDiff]
  rw [V_cond]
  simp (disch:=omega) only[push_cast,Nat.reduceEqDiff]
  refine condX_d (fun hbig => ?_) (fun hsm => ?_)
  · simp (disch:=omega) only[push_cast,Nat.reduceEqDiff]
    refine storeX 2 rfl Siz.eq rfl rfl (by simp [Value.oneCell']) (by simp) ?_
    simp (disch:=omega) only[push_cast,Nat.reduceEqDiff]
    refine storeX 1 rfl Siz.eq rfl rfl (by simp [Value.oneCell']) (by simp) ?_
    simp (disch:=omega) only[push_cast,Nat.reduceEqDiff]
    refine storeX 0 rfl Siz.eq rfl rfl (by simp [Value.oneCell']) (by simp) ?_
    simp (disch:=omega) only[push_cast,Nat.reduceEqDiff]
    refine .inl (loadX_agg Shp.eq mem2 rfl rfl ?_)
    simp (disch:=omega) only[push_cast,Nat.reduceEqDiff]
    refine ldOne Shp.eq mem1 rfl ?_
    simp (disch:=omega) only[push_cast,Nat.reduceEqDiff]
    refine ldOne Shp.eq mem0 rfl ?_
    simp (disch:=omega) only[push_cast,Nat.reduceEqDiff]
    have hr : parseP t = ⟨[],[],4,65536⟩ := by unfold parseP; rw [if_pos (by omega)]
    rw [hr]
    exact fun w' hw' => ⟨_,[],rfl,hw'.end (fun b hb => by
      simp only [List.mem_cons,List.mem_nil_iff,or_false] at hb
      rcases hb with rfl | rfl | rfl <;> assumption),by simp,none,0,none,0,[],[],[],rfl,rfl,own_nil,ownN_nil⟩
  simp (disch:=omega) only[push_cast,Nat.reduceEqDiff]
  refine ⟨rfl,_,fun w => rfl,?_⟩
  simp (disch:=omega) only[push_cast,Nat.reduceEqDiff]
  refine newI (fun b5 hb5 hn5 => ?_)
  simp (disch:=omega) only[push_cast,Nat.reduceEqDiff]
  have ht2 : t.length ≤ 65536 := by omega
  refine callV en_34 (callX_base (fun w' hw' => blanks_walk w w' b5 t 0 [oIn b4 0,oEr b3 0,oSc b2 (.slice none 0 0) (.slice none 0 0)] ht2 (Nat.zero_le _) hw') ?_)
  rintro e' w' ⟨rfl,q1⟩
  refine ⟨_,_,rfl,q1,?_⟩
  clear q1
  have hle : blP t 0 ≤ t.length := runP_le (Nat.zero_le _)
  have hid : blP t (blP t 0) = blP t 0 := by unfold blP; exact runP_idem _ _ _
  have hM3 : ∀ b ∈ [oIn b4 0,oEr b3 0,oSc b2 (.slice none 0 0) (.slice none 0 0)],w.heap.size ≤ b.1 := fun b hb => by
    simp only [List.mem_cons,List.mem_nil_iff,or_false] at hb
    rcases hb with rfl | rfl | rfl <;> assumption
  generalize hq0 : blP t 0 = q0 at hle hid ⊢
  simp (disch:=omega) only[push_cast,Nat.reduceEqDiff]
  refine cutW (P7 w t b2 b3 b4 b5 q0 [{ target := .fn (.func 33) #[.pointer (some ⟨b2,0,none⟩),.pointer (some ⟨b3,0,none⟩),.pointer (some ⟨b4,0,none⟩)],args := #[] }] [oRd b5 t q0,oIn b4 0,oEr b3 0,oSc b2 (.slice none 0 0) (.slice none 0 0)]) ?_ ?_
  · refine drawQT (by kernel_rfl) (by kernel_rfl) mixed (by kernel_rfl) ?_
    simp (disch:=omega) only[push_cast,Nat.reduceEqDiff]
    refine ldOne Shp.eq mem0 rfl ?_
    simp (disch:=omega) only[push_cast,Nat.reduceEqDiff]
    refine ldOne Shp.eq mem0 rfl ?_
    simp (disch:=omega) only[push_cast,Nat.reduceEqDiff]
    have hquiet : ∀ w',Sy w (oRd b5 t q0 :: [oIn b4 0,oEr b3 0,oSc b2 (.slice none 0 0) (.slice none 0 0)]) w' → At w' b5 0 [str t,i64 q0] := fun w' hw' => At.of_own hw' (.head _) rfl
    refine guardX_t rfl (fun hlt => ?_) (fun hge => ?_)
    · simp (disch:=omega) only[push_cast,Nat.reduceEqDiff]
      refine qcallV en_35 (qcallX_is _ (fun w' hw' => is_quiet w' b5 t q0 124 124 rfl ht2 hle hid (hquiet w' hw')) ?_)
      simp (disch:=omega) only[push_cast,Nat.reduceEqDiff]
      have hlt' : q0 < t.length := by omega
      exact ⟨_,fun w hw => hw,⟨rfl,rfl,rfl,rfl,rfl,rfl,rfl,by simp [upd,hlt'],rfl⟩⟩
    · simp (disch:=omega) only[push_cast,Nat.reduceEqDiff]
      have hlt' : ¬ q0 < t.length := by omega
      exact ⟨_,fun w hw => hw,⟨rfl,rfl,rfl,rfl,rfl,rfl,rfl,by simp [upd,hlt'],rfl⟩⟩
  rintro wb e ds L ⟨rfl,rfl,h2,h3,h4,h5,h6,h32,rfl⟩
  try simp (disch:=omega) only[push_cast,Nat.reduceEqDiff,h2,h3,h4,h5,h6,h32]
  refine cutV (PhI wb t b2 b3 b4 b5 q0 [{ target := .fn (.func 33) #[.pointer (some ⟨b2,0,none⟩),.pointer (some ⟨b3,0,none⟩),.pointer (some ⟨b4,0,none⟩)],args := #[] }]) ?_ ?_
  · rw [V_cond]
    simp (disch:=omega) only[push_cast,Nat.reduceEqDiff,h2,h3,h4,h5,h6,h32]
    refine condX_d (fun hyes => ?_) (fun hno => ?_)
    · simp (disch:=omega) only[push_cast,Nat.reduceEqDiff,h2,h3,h4,h5,h6,h32]
      refine callV en_36 (callX_pr (fun w' hw' => many_ok (t.length + 1) wb w' b5 t q0 [oIn b4 0,oEr b3 0,oSc b2 (.slice none 0 0) (.slice none 0 0)] ⟨ht2,hs,hl,hle,hb5,hM3,hw'⟩ (by rw [hid]; omega)) (fun xs q v p' K hr hq hp' hS hK => ?_) (fun q8 K hr hK => ?_))
      rotate_left
      · simp (disch:=omega) only[push_cast,Nat.reduceEqDiff,h2,h3,h4,h5,h6]
        have hM8 := hK
        have hr8 : parseP t = ⟨[],[],8,q8⟩ := by
          unfold parseP
          rw [if_neg (by omega),pSchema,hq0,pHead,if_pos hyes,pFields,← hid,hr,PR.and_no]
        refine .inr ⟨_,_,rfl,en_33,fun w' hw' => (parseC_back wb w' (K) b2 b3 b4 (.slice none 0 0) (.slice none 0 0) 0 0 q8 hb2 hb3 hb4 hM8 (hw'.perm (permC fun f => by simp only [wt_append,wt_cons,wt_nil]; omega))).mono ?_⟩
        rintro e1 u1 w1 ⟨rfl,hu,b9,hb9,hw1⟩
        refine ⟨rfl,hu,_,hw1,?_⟩
        try simp (disch:=omega) only[push_cast,Nat.reduceEqDiff,h2,h3,h4,h5,h6]
        refine loadX_agg Shp.eq mem1 rfl rfl ?_
        simp (disch:=omega) only[push_cast,Nat.reduceEqDiff,h2,h3,h4,h5,h6]
        refine ldOne Shp.eq mem2 rfl ?_
        simp (disch:=omega) only[push_cast,Nat.reduceEqDiff,h2,h3,h4,h5,h6]
        refine ldOne Shp.eq mem3 rfl ?_
        simp (disch:=omega) only[push_cast,Nat.reduceEqDiff,h2,h3,h4,h5,h6]
        rw [hr8]
        exact fun w2 hw2 => ⟨_,[],rfl,hw2.end (fun b hb => by
          simp only [List.mem_cons] at hb
          rcases hb with rfl | rfl | rfl | rfl | hb
          · exact hb9
          · exact hb2
          · exact hb3
          · exact hb4
          · exact hM8 b (by simpa using hb)),by simp,none,0,none,0,[],[],[],rfl,rfl,own_nil,ownN_nil⟩
      (refine Exists.elim (hS) (fun a hz => Exists.elim hz (fun c hz => Exists.elim hz (fun a2 hz => Exists.elim hz (fun c2 hz => Exists.elim hz (fun K1 hz => Exists.elim hz (fun K2 hz => ?_)))))); have ez := hz.1; subst ez; have ez := hz.2.1; subst ez; have hO1 := hz.2.2.1; have hO2 := hz.2.2.2; clear hz)
      simp (disch:=omega) only[push_cast,Nat.reduceEqDiff,h2,h3,h4,h5,h6]
      refine storeX_weak (L' := oSc b2 (.slice none 0 0) (.slice none 0 0) :: oRd b5 t p' :: oIn b4 0 :: oEr b3 0 :: (K1 ++ K2)) (fun w hw => hw.perm (?_ : List.Perm (oRd b5 t p' :: ((K1 ++ K2) ++ [oIn b4 0,oEr b3 0,oSc b2 (.slice none 0 0) (.slice none 0 0)])) _)) (storeX 0 rfl Siz.eq rfl rfl (by simp [Value.oneCell']) (by simp) ?_)
      · exact permC fun f => by simp only [wt_append,wt_cons,wt_nil]; omega
      simp (disch:=omega) only[push_cast,Nat.reduceEqDiff,h2,h3,h4,h5,h6]
      refine ⟨rfl,rfl,h2,h3,h4,h5,xs,p',a,c,a2,c2,K1,K2,?_,hp',by simp [upd],hO1,hO2,hK,fun w' hw' => Sy.perm hw' (List.Perm.swap _ _ _)⟩
      rw [pHead,if_pos hyes,pFields,← hid,hr,hq]
    · simp (disch:=omega) only[push_cast,Nat.reduceEqDiff,h2,h3,h4,h5,h6,h32]
      refine ⟨rfl,rfl,h2,h3,h4,h5,[],q0,none,0,none,0,[],[],?_,hle,h6,own_nil,(OwPS_iff _ _ _ _).2 (.inl ⟨rfl,rfl,rfl,rfl⟩),by simp,fun w' hw' => hw'.perm ?_⟩
      · rw [pHead,if_neg hno,hid]
      · show List.Perm _ (oRd b5 t q0 :: (oSc b2 (.slice none 0 0) (.slice none 0 0) :: oIn b4 0 :: oEr b3 0 :: ([] ++ [])))
        exact permC fun f => by simp only [wt_append,wt_cons,wt_nil]; omega
  rintro wb e ds L ⟨rfl,rfl,h2,h3,h4,h5,xs,p1,a,c,a2,c2,K1,K2,hr1,hp1,h6,hO1,hO2,hK,hL⟩
  have hMs : ∀ b ∈ oSc b2 (.slice a xs.length c) (.slice none 0 0) :: oIn b4 0 :: oEr b3 0 :: (K1 ++ K2),wb.heap.size ≤ b.1 := fun b hb => by
    simp only [List.mem_cons] at hb
    rcases hb with rfl | rfl | rfl | hb
    · exact hb2
    · exact hb4
    · exact hb3
    · exact hK b hb
  have hp2 : blP t p1 ≤ t.length := runP_le hp1
  have hid1 : blP t (blP t p1) = blP t p1 := by unfold blP; exact runP_idem _ _ _
  rw [V_seq]
  refine cutV (PntI wb t b2 b3 b4 b5 q0 [{ target := .fn (.func 33) #[.pointer (some ⟨b2,0,none⟩),.pointer (some ⟨b3,0,none⟩),.pointer (some ⟨b4,0,none⟩)],args := #[] }]) ?_ ?_
  · rw [V_seq]
    refine cutV (P9 wb t b2 b3 b4 b5 q0 [{ target := .fn (.func 33) #[.pointer (some ⟨b2,0,none⟩),.pointer (some ⟨b3,0,none⟩),.pointer (some ⟨b4,0,none⟩)],args := #[] }]) ?_ ?_
    · simp (disch:=omega) only[push_cast,Nat.reduceEqDiff,h2,h3,h4,h5,h6]
      refine callV en_37 (callX_two (fun L' => t[blP t p1]? = some 124 ∧ L' = oRd b5 t (blP t p1 + 1) :: (oSc b2 (.slice a xs.length c) (.slice none 0 0) :: oIn b4 0 :: oEr b3 0 :: (K1 ++ K2))) (fun L' => t[blP t p1]? ≠ some 124 ∧ L' = oRd b5 t (blP t p1) :: (oSc b2 (.slice a xs.length c) (.slice none 0 0) :: oIn b4 0 :: oEr b3 0 :: (K1 ++ K2))) (fun w' hw' => take_walk wb w' b5 t p1 _ 124 124 rfl ht2 hp1 (hL w' hw')) (fun L' hL' => ?_) (fun L' hL' => ?_))
      · have g1 := hL'.1
        have g2 := hL'.2
        subst g2
        have hlt := (List.getElem?_eq_some_iff.1 g1).1
        simp (disch:=omega) only[push_cast,Nat.reduceEqDiff,h2,h3,h4,h5,h6]
        exact ⟨rfl,rfl,h2,h3,h4,h5,xs,blP t p1,blP t p1 + 1,true,a,c,a2,c2,K1,K2,hr1,rfl,(fun _ => by rw [pSign,if_pos g1]),(fun h => by cases h),by omega,by simpa [upd] using h6,hO1,hO2,hK,rfl⟩
      · have g1 := hL'.1
        have g2 := hL'.2
        subst g2
        simp (disch:=omega) only[push_cast,Nat.reduceEqDiff,h2,h3,h4,h5,h6]
        exact ⟨rfl,rfl,h2,h3,h4,h5,xs,blP t p1,blP t p1,false,a,c,a2,c2,K1,K2,hr1,rfl,(fun h => by cases h),(fun _ => ⟨by rw [pSign,if_neg g1],hid1⟩),by omega,by simpa [upd] using h6,hO1,hO2,hK,rfl⟩
    clear hMs hp2 hid1 hL hK hO1 hO2 h6 hp1 hr1 h2 h3 h4 h5
    rintro wb e ds L ⟨rfl,rfl,h2,h3,h4,h5,xs,q,p2,y,a,c,a2,c2,K1,K2,hr1,h40,hy1,hy2,hp2,h6,hO1,hO2,hK,rfl⟩
    rw [V_cond]
    simp (disch:=omega) only[push_cast,Nat.reduceEqDiff,h2,h3,h4,h5,h6,h40]
    refine condX_b (fun hyes => ?_) (fun hno => ?_)
    · have hMq : ∀ b ∈ oSc b2 (.slice a xs.length c) (.slice none 0 0) :: oIn b4 0 :: oEr b3 0 :: (K1 ++ K2),wb.heap.size ≤ b.1 := fun b hb => by
        simp only [List.mem_cons] at hb
        rcases hb with rfl | rfl | rfl | hb
        · exact hb2
        · exact hb4
        · exact hb3
        · exact hK b hb
      simp (disch:=omega) only[push_cast,Nat.reduceEqDiff,h2,h3,h4,h5,h6,h40]
      refine callV en_38 (callX_pr (fun w' hw' => notes_walk wb w' b5 t p2 (oSc b2 (.slice a xs.length c) (.slice none 0 0) :: oIn b4 0 :: oEr b3 0 :: (K1 ++ K2)) ht2 hp2 hb5 hw') (fun nt q3 v p3 K3 hr3 hq3 hp3 hS3 hK3 => ?_) (fun q8 K hr3 hK3 => ?_))
      rotate_left
      · simp (disch:=omega) only[push_cast,Nat.reduceEqDiff,h2,h3,h4,h5,h6,h40]
        have hM8 : ∀ b ∈ (K1 ++ K2) ++ K,wb.heap.size ≤ b.1 := fun b hb => by
          rcases List.mem_append.1 hb with hb | hb
          · exact hK b hb
          · exact hK3 b hb
        have hr8 : parseP t = ⟨[],[],8,q8⟩ := by
          unfold parseP
          rw [if_neg (by omega),pSchema,hq0,hr1,PR.and_ok,pTail,hy1 hyes]
          simp only
          rw [hr3,PR.and_no]
        refine .inr ⟨_,_,rfl,en_33,fun w' hw' => (parseC_back wb w' ((K1 ++ K2) ++ K) b2 b3 b4 (.slice a xs.length c) (.slice none 0 0) 0 0 q8 hb2 hb3 hb4 hM8 (hw'.perm (permC fun f => by simp only [wt_append,wt_cons,wt_nil]; omega))).mono ?_⟩
        rintro e1 u1 w1 ⟨rfl,hu,b9,hb9,hw1⟩
        refine ⟨rfl,hu,_,hw1,?_⟩
        try simp (disch:=omega) only[push_cast,Nat.reduceEqDiff,h2,h3,h4,h5,h6]
        refine loadX_agg Shp.eq mem1 rfl rfl ?_
        simp (disch:=omega) only[push_cast,Nat.reduceEqDiff,h2,h3,h4,h5,h6]
        refine ldOne Shp.eq mem2 rfl ?_
        simp (disch:=omega) only[push_cast,Nat.reduceEqDiff,h2,h3,h4,h5,h6]
        refine ldOne Shp.eq mem3 rfl ?_
        simp (disch:=omega) only[push_cast,Nat.reduceEqDiff,h2,h3,h4,h5,h6]
        rw [hr8]
        exact fun w2 hw2 => ⟨_,[],rfl,hw2.end (fun b hb => by
          simp only [List.mem_cons] at hb
          rcases hb with rfl | rfl | rfl | rfl | hb
          · exact hb9
          · exact hb2
          · exact hb3
          · exact hb4
          · exact hM8 b (by simpa using hb)),by simp,none,0,none,0,[],[],[],rfl,rfl,own_nil,ownN_nil⟩
      (refine Exists.elim (hS3) (fun na hz => Exists.elim hz (fun nc hz => ?_)); have ez := hz.1; subst ez; have hO3 := hz.2; clear hz)
      simp (disch:=omega) only[push_cast,Nat.reduceEqDiff,h2,h3,h4,h5,h6,h40]
      refine storeX_weak (L' := oSc b2 (.slice a xs.length c) (.slice none 0 0) :: oRd b5 t p3 :: oIn b4 0 :: oEr b3 0 :: (K1 ++ (K3 ++ K2))) (fun w hw => hw.perm (?_ : List.Perm (oRd b5 t p3 :: (K3 ++ (oSc b2 (.slice a xs.length c) (.slice none 0 0) :: oIn b4 0 :: oEr b3 0 :: (K1 ++ K2)))) _)) (storeX 0 rfl Siz.eq rfl rfl (by simp [Value.oneCell']) (by simp) ?_)
      · exact permC fun f => by simp only [wt_append,wt_cons,wt_nil]; omega
      simp (disch:=omega) only[push_cast,Nat.reduceEqDiff,h2,h3,h4,h5,h6,h40]
      refine ⟨rfl,rfl,h2,h3,h4,h5,xs,nt,q,p3,a,c,a2,c2,na,nc,K1,K2,K3,hr1,?_,hp3,by simpa [upd] using h6,hO1,hO2,hO3,fun b hb => ?_,fun w' hw' => Sy.perm hw' (List.Perm.swap _ _ _)⟩
      · rw [pTail,hy1 hyes]
        simp only
        rw [hr3,hq3]
      · rcases List.mem_append.1 hb with hb | hb
        · exact hK b hb
        · exact hK3 b hb
    · obtain ⟨z1,z2⟩ := hy2 hno
      simp (disch:=omega) only[push_cast,Nat.reduceEqDiff,h2,h3,h4,h5,h6,h40]
      refine ⟨rfl,rfl,h2,h3,h4,h5,xs,[],q,p2,a,c,a2,c2,none,0,K1,K2,[],hr1,by rw [pTail,z1,z2],hp2,h6,hO1,hO2,ownN_nil,by simpa using hK,fun w' hw' => ?_⟩
      simpa using hw'
  clear hMs hp2 hid1 hL hK hO1 hO2 h6 hp1 hr1 h2 h3 h4 h5
  rintro wb e ds L ⟨rfl,rfl,h2,h3,h4,h5,xs,nt,q,p3,a,c,a2,c2,na,nc,K1,K2,K3,hr1,hr2,hp3,h6,hO1,hO2,hO3,hK,hL⟩
  have hMn : ∀ b ∈ oSc b2 (.slice a xs.length c) (.slice na nt.length nc) :: oIn b4 0 :: oEr b3 0 :: (K1 ++ (K3 ++ K2)),wb.heap.size ≤ b.1 := fun b hb => by
    simp only [List.mem_cons,List.mem_append] at hb hK
    rcases hb with rfl | rfl | rfl | hb | hb | hb
    · exact hb2
    · exact hb4
    · exact hb3
    · exact hK b (.inl (.inl hb))
    · exact hK b (.inr hb)
    · exact hK b (.inl (.inr hb))
  have hps : pSchema t = pEnd t (xs,nt) (blP t p3) := by rw [pSchema,hq0,hr1,PR.and_ok,hr2,PR.and_ok]
  simp (disch:=omega) only[push_cast,Nat.reduceEqDiff,h2,h3,h4,h5,h6]
  refine callV en_39 (callX_pr (fun w' hw' => end_walk wb w' b5 t p3 (oSc b2 (.slice a xs.length c) (.slice na nt.length nc) :: oIn b4 0 :: oEr b3 0 :: (K1 ++ (K3 ++ K2))) ht2 hp3 hb5 (hL w' hw')) (fun _ q' v p4 K hr4 hq4 hp4 hS4 hK4 => ?_) (fun q8 K hr4 hK4 => ?_))
  rotate_left
  · simp (disch:=omega) only[push_cast,Nat.reduceEqDiff,h2,h3,h4,h5,h6]
    have hM8 : ∀ b ∈ (K1 ++ (K3 ++ K2)) ++ K,wb.heap.size ≤ b.1 := fun b hb => by
      rcases List.mem_append.1 hb with hb | hb
      · exact hMn b (by simp only [List.mem_cons]; exact .inr (.inr (.inr hb)))
      · exact hK4 b hb
    have hr8 : parseP t = ⟨[],[],8,q8⟩ := by
      unfold parseP
      rw [if_neg (by omega),hps,pEnd_no hr4]
    refine .inr ⟨_,_,rfl,en_33,fun w' hw' => (parseC_back wb w' ((K1 ++ (K3 ++ K2)) ++ K) b2 b3 b4 (.slice a xs.length c) (.slice na nt.length nc) 0 0 q8 hb2 hb3 hb4 hM8 (hw'.perm (permC fun f => by simp only [wt_append,wt_cons,wt_nil]; omega))).mono ?_⟩
    rintro e1 u1 w1 ⟨rfl,hu,b9,hb9,hw1⟩
    refine ⟨rfl,hu,_,hw1,?_⟩
    try simp (disch:=omega) only[push_cast,Nat.reduceEqDiff,h2,h3,h4,h5,h6]
    refine loadX_agg Shp.eq mem1 rfl rfl ?_
    simp (disch:=omega) only[push_cast,Nat.reduceEqDiff,h2,h3,h4,h5,h6]
    refine ldOne Shp.eq mem2 rfl ?_
    simp (disch:=omega) only[push_cast,Nat.reduceEqDiff,h2,h3,h4,h5,h6]
    refine ldOne Shp.eq mem3 rfl ?_
    simp (disch:=omega) only[push_cast,Nat.reduceEqDiff,h2,h3,h4,h5,h6]
    rw [hr8]
    exact fun w2 hw2 => ⟨_,[],rfl,hw2.end (fun b hb => by
      simp only [List.mem_cons] at hb
      rcases hb with rfl | rfl | rfl | rfl | hb
      · exact hb9
      · exact hb2
      · exact hb3
      · exact hb4
      · exact hM8 b (by simpa using hb)),by simp,none,0,none,0,[],[],[],rfl,rfl,own_nil,ownN_nil⟩
  obtain ⟨rfl,rfl⟩ := hS4
  simp (disch:=omega) only[push_cast,Nat.reduceEqDiff,h2,h3,h4,h5,h6]
  refine loadX_agg Shp.eq mem1 rfl rfl ?_
  simp (disch:=omega) only[push_cast,Nat.reduceEqDiff,h2,h3,h4,h5,h6]
  have hMw : ∀ b ∈ oRd b5 t p4 :: (oSc b2 (.slice a xs.length c) (.slice na nt.length nc) :: oIn b4 0 :: oEr b3 0 :: (K1 ++ (K3 ++ K2))),wb.heap.size ≤ b.1 := fun b hb => by
    rcases List.mem_cons.1 hb with rfl | hb
    · exact hb5
    · exact hMn b hb
  have hnl := pTail_len hr2
  have e1 : (xs.map (·.1)).length = xs.length := List.length_map _
  refine callV en_17 (callX_new (S := fun v M => wrongFault v M (checkP (xs.map (·.1)) nt)) (fun w' hw' => check_xs wb w' hs _ xs nt a c na nc K1 K3 hw' hMw hO1 hO3 (fun p hp => .tail _ (.tail _ (.tail _ (.tail _ (List.mem_append_left _ hp))))) (fun p hp => .tail _ (.tail _ (.tail _ (.tail _ (List.mem_append_right _ (List.mem_append_left _ hp)))))) (fun n hn => ⟨by have := (hnl n hn).1; omega,by have := (hnl n hn).2; omega⟩)) (fun v M8 hM8 hn8 hS8 => ?_))
  refine Exists.elim hS8 (fun pa h8 => Exists.elim h8 (fun pc h8 => ?_))
  have hv8 := h8.1
  subst hv8
  simp (disch:=omega) only[push_cast,Nat.reduceEqDiff,h2,h3,h4,h5,h6]
  refine newI (fun b7 hb7 hn7 => ?_)
  simp (disch:=omega) only[push_cast,Nat.reduceEqDiff,h2,h3,h4,h5,h6]
  refine storeX 0 rfl Siz.eq rfl rfl (by simp [Value.oneCell']) (by simp) ?_
  simp (disch:=omega) only[push_cast,Nat.reduceEqDiff,h2,h3,h4,h5,h6]
  refine ldOne Shp.eq mem0 rfl ?_
  simp (disch:=omega) only[push_cast,Nat.reduceEqDiff,h2,h3,h4,h5,h6]
  rw [V_cond]
  simp (disch:=omega) only[push_cast,Nat.reduceEqDiff,h2,h3,h4,h5,h6]
  refine condX_d (fun hne => ?_) (fun heq => ?_)
  · simp (disch:=omega) only[push_cast,Nat.reduceEqDiff,h2,h3,h4,h5,h6]
    have hFt : ∀ b ∈ oSc b2 (.slice a xs.length c) (.slice na nt.length nc) :: oEr b3 0 :: oIn b4 0 :: (b7,Obj.cells #[i64 (checkP (xs.map (·.1)) nt).1,.slice pa (checkP (xs.map (·.1)) nt).2.1.length pc,i64 (checkP (xs.map (·.1)) nt).2.2] 51 (0,0)) :: oRd b5 t p4 :: ((K1 ++ (K3 ++ K2)) ++ M8),wb.heap.size ≤ b.1 := fun b hb => by
      simp only [List.mem_cons,List.mem_append] at hb hK
      rcases hb with rfl | rfl | rfl | rfl | rfl | (hb | hb | hb) | hb
      · exact hb2
      · exact hb3
      · exact hb4
      · exact hb7
      · exact hb5
      · exact hK b (.inl (.inl hb))
      · exact hK b (.inr hb)
      · exact hK b (.inl (.inr hb))
      · exact hM8 b hb
    have hst : ∀ (o2 o3 o4 : Obj),Stab wb ((b2,o2) :: (b3,o3) :: (b4,o4) :: (b7,Obj.cells #[i64 (checkP (xs.map (·.1)) nt).1,.slice pa (checkP (xs.map (·.1)) nt).2.1.length pc,i64 (checkP (xs.map (·.1)) nt).2.2] 51 (0,0)) :: oRd b5 t p4 :: ((K1 ++ (K3 ++ K2)) ++ M8)) [(b7,Obj.cells #[i64 (checkP (xs.map (·.1)) nt).1,.slice pa (checkP (xs.map (·.1)) nt).2.1.length pc,i64 (checkP (xs.map (·.1)) nt).2.2] 51 (0,0))] := fun o2 o3 o4 => Stab.of (.cons _ (.cons _ (.cons _ (.cons_cons _ (List.nil_sublist _))))) (fun b hb => by
      simp only [List.mem_cons] at hb
      rcases hb with rfl | rfl | rfl | hb
      · exact hb2
      · exact hb3
      · exact hb4
      · exact hFt b (.tail _ (.tail _ (.tail _ (List.mem_cons.2 (hb.imp id List.mem_cons.2))))))
    refine freeT [0,1,2,3,4,5] [6,7,8,9] [(b7,Obj.cells #[i64 (checkP (xs.map (·.1)) nt).1,.slice pa (checkP (xs.map (·.1)) nt).2.1.length pc,i64 (checkP (xs.map (·.1)) nt).2.2] 51 (0,0))] (by kernel_rfl) mixed (by kernel_rfl) (Stab.of (.cons_cons _ (List.nil_sublist _)) (fun b hb => hFt b (by
      simp only [List.mem_cons,List.mem_append] at hb ⊢
      rcases hb with hb | hb | hb | hb | hb | hb | hb
      all_goals simp [hb]))) ?_
    simp (disch:=omega) only[push_cast,Nat.reduceEqDiff,h2,h3,h4,h5,h6]
    refine ldOne Shp.eq mem0 rfl ?_
    simp (disch:=omega) only[push_cast,Nat.reduceEqDiff,h2,h3,h4,h5,h6]
    refine ldOne Shp.eq mem0 rfl ?_
    simp (disch:=omega) only[push_cast,Nat.reduceEqDiff,h2,h3,h4,h5,h6]
    refine callV en_40 (callX_weak (L' := oSc b2 (.slice a xs.length c) (.slice na nt.length nc) :: oEr b3 0 :: oIn b4 0 :: (b7,Obj.cells #[i64 (checkP (xs.map (·.1)) nt).1,.slice pa (checkP (xs.map (·.1)) nt).2.1.length pc,i64 (checkP (xs.map (·.1)) nt).2.2] 51 (0,0)) :: oRd b5 t p4 :: ((K1 ++ (K3 ++ K2)) ++ M8)) (fun w hw => hw.perm (?_ : List.Perm ((b7,Obj.cells #[i64 (checkP (xs.map (·.1)) nt).1,.slice pa (checkP (xs.map (·.1)) nt).2.1.length pc,i64 (checkP (xs.map (·.1)) nt).2.2] 51 (0,0)) :: (M8 ++ (oRd b5 t p4 :: oSc b2 (.slice a xs.length c) (.slice na nt.length nc) :: oIn b4 0 :: oEr b3 0 :: (K1 ++ (K3 ++ K2))))) _)) (callX_is (v := i64 (foundP (xs.map (·.2)) (checkP (xs.map (·.1)) nt).2.1 0)) (fun w' hw' => found_xs wb w' _ xs nt a2 c2 K2 hO2 hw' (fun p hp => by simp [hp]) (fun p hp => by simp [hp]) h8.2.1 (check_way (likeL_map (pHead_like hr1)))) ?_))
    · exact permC fun f => by simp only [wt_append,wt_cons,wt_nil]; omega
    simp (disch:=omega) only[push_cast,Nat.reduceEqDiff,h2,h3,h4,h5,h6]
    refine ⟨hst _ _ _,storeX 0 rfl Siz.eq rfl rfl (by simp [Value.oneCell']) (by simp) ?_⟩
    simp (disch:=omega) only[push_cast,Nat.reduceEqDiff,h2,h3,h4,h5,h6]
    refine ⟨hst _ _ _,storeX 1 rfl Siz.eq rfl rfl (by simp [Value.oneCell']) (by simp) ?_⟩
    simp (disch:=omega) only[push_cast,Nat.reduceEqDiff,h2,h3,h4,h5,h6]
    refine ⟨hst _ _ _,storeX 2 rfl Siz.eq rfl rfl (by simp [Value.oneCell']) (by simp) ?_⟩
    simp (disch:=omega) only[push_cast,Nat.reduceEqDiff,h2,h3,h4,h5,h6]
    refine ⟨hst _ _ _,?_⟩
    try simp (disch:=omega) only[push_cast,Nat.reduceEqDiff,h2,h3,h4,h5,h6]
    have hr8 : parseP t = ⟨[],[],(checkP (xs.map (·.1)) nt).1,foundP (xs.map (·.2)) (checkP (xs.map (·.1)) nt).2.1 0⟩ := by
      unfold parseP
      rw [if_neg (by omega),hps,pEnd_ok hr4]
      simp only
      rw [if_neg hne]
    refine .inr ⟨_,_,rfl,en_33,fun w' hw' => (parseC_idle wb w' _ hw' _ _ _).mono ?_⟩
    rintro e1 u1 w1 ⟨rfl,rfl,hw1⟩
    refine ⟨rfl,rfl,_,hw1,?_⟩
    try simp (disch:=omega) only[push_cast,Nat.reduceEqDiff,h2,h3,h4,h5,h6]
    refine loadX_agg Shp.eq mem0 rfl rfl ?_
    simp (disch:=omega) only[push_cast,Nat.reduceEqDiff,h2,h3,h4,h5,h6]
    refine ldOne Shp.eq mem1 rfl ?_
    simp (disch:=omega) only[push_cast,Nat.reduceEqDiff,h2,h3,h4,h5,h6]
    refine ldOne Shp.eq mem2 rfl ?_
    simp (disch:=omega) only[push_cast,Nat.reduceEqDiff,h2,h3,h4,h5,h6]
    rw [hr8]
    exact fun w2 hw2 => ⟨_,[],rfl,hw2.end (fun b hb => by
      simp only [List.mem_cons] at hb
      rcases hb with rfl | rfl | rfl | hb
      · exact hb2
      · exact hb3
      · exact hb4
      · exact hFt b (.tail _ (.tail _ (.tail _ (List.mem_cons.2 (hb.imp id List.mem_cons.2)))))),by simp,none,0,none,0,[],[],[],rfl,rfl,own_nil,ownN_nil⟩
  simp (disch:=omega) only[push_cast,Nat.reduceEqDiff,h2,h3,h4,h5,h6]
  have hr0 : parseP t = ⟨xs.map (·.1),nt,0,0⟩ := by
    have hc : (checkP (xs.map (·.1)) nt).1 = 0 := by omega
    unfold parseP
    rw [if_neg (by omega),hps,pEnd_ok hr4]
    simp only
    rw [if_pos hc]
  refine loadX_agg Shp.eq (.tail _ (List.mem_append_right _ mem1)) rfl rfl ?_
  simp (disch:=omega) only[push_cast,Nat.reduceEqDiff,h2,h3,h4,h5,h6]
  refine storeX_weak (L' := oSc b2 (.slice a xs.length c) (.slice na nt.length nc) :: oEr b3 0 :: oIn b4 0 :: (b7,Obj.cells #[i64 (checkP (xs.map (·.1)) nt).1,.slice pa (checkP (xs.map (·.1)) nt).2.1.length pc,i64 (checkP (xs.map (·.1)) nt).2.2] 51 (0,0)) :: oRd b5 t p4 :: ((K1 ++ (K3 ++ K2)) ++ M8)) (fun w hw => hw.perm (?_ : List.Perm ((b7,Obj.cells #[i64 (checkP (xs.map (·.1)) nt).1,.slice pa (checkP (xs.map (·.1)) nt).2.1.length pc,i64 (checkP (xs.map (·.1)) nt).2.2] 51 (0,0)) :: (M8 ++ (oRd b5 t p4 :: oSc b2 (.slice a xs.length c) (.slice na nt.length nc) :: oIn b4 0 :: oEr b3 0 :: (K1 ++ (K3 ++ K2))))) _)) (storeX 0 rfl Siz.eq rfl rfl (by simp [Value.oneCell']) (by simp) ?_)
  · exact permC fun f => by simp only [wt_append,wt_cons,wt_nil]; omega
  simp (disch:=omega) only[push_cast,Nat.reduceEqDiff,h2,h3,h4,h5,h6]
  refine storeX 1 rfl Siz.eq rfl rfl (by simp [Value.oneCell']) (by simp) ?_
  simp (disch:=omega) only[push_cast,Nat.reduceEqDiff,h2,h3,h4,h5,h6]
  refine storeX 2 rfl Siz.eq rfl rfl (by simp [Value.oneCell']) (by simp) ?_
  simp (disch:=omega) only[push_cast,Nat.reduceEqDiff,h2,h3,h4,h5,h6]
  refine .inr ⟨_,_,rfl,en_33,fun w' hw' => (parseC_idle wb w' _ hw' _ _ _).mono ?_⟩
  rintro e1 u1 w1 ⟨rfl,rfl,hw1⟩
  refine ⟨rfl,rfl,_,hw1,?_⟩
  try simp (disch:=omega) only[push_cast,Nat.reduceEqDiff,h2,h3,h4,h5,h6]
  refine loadX_agg Shp.eq mem0 rfl rfl ?_
  simp (disch:=omega) only[push_cast,Nat.reduceEqDiff,h2,h3,h4,h5,h6]
  refine ldOne Shp.eq mem1 rfl ?_
  simp (disch:=omega) only[push_cast,Nat.reduceEqDiff,h2,h3,h4,h5,h6]
  refine ldOne Shp.eq mem2 rfl ?_
  simp (disch:=omega) only[push_cast,Nat.reduceEqDiff,h2,h3,h4,h5,h6]
  rw [hr0]
  intro w2 hw2
  refine ⟨_,K1 ++ (K3 ++ (oSc b2 (.slice a xs.length c) (.slice na nt.length nc) :: oEr b3 0 :: oIn b4 0 :: (b7,Obj.cells #[i64 (checkP (xs.map (·.1)) nt).1,.slice pa (checkP (xs.map (·.1)) nt).2.1.length pc,i64 (checkP (xs.map (·.1)) nt).2.2] 51 (0,0)) :: oRd b5 t p4 :: (K2 ++ M8))),rfl,hw2.perm (?_ : List.Perm (oSc b2 (.slice a xs.length c) (.slice na nt.length nc) :: oEr b3 0 :: oIn b4 0 :: (b7,Obj.cells #[i64 (checkP (xs.map (·.1)) nt).1,.slice pa (checkP (xs.map (·.1)) nt).2.1.length pc,i64 (checkP (xs.map (·.1)) nt).2.2] 51 (0,0)) :: oRd b5 t p4 :: ((K1 ++ (K3 ++ K2)) ++ M8)) _),fun b hb => ?_,a,c,na,nc,K1,K3,_,by simp,rfl,hO1,hO3⟩
  · exact permC fun f => by simp only [wt_append,wt_cons,wt_nil]; omega
  · simp only [List.mem_cons,List.mem_append] at hb hK
    rcases hb with hb | hb | rfl | rfl | rfl | rfl | rfl | hb | hb
    · exact hK b (.inl (.inl hb))
    · exact hK b (.inr hb)
    · exact hb2
    · exact hb3
    · exact hb4
    · exact hb7
    · exact hb5
    · exact hK b (.inl (.inr hb))
    · exact hM8 b hb
end Go.Proofs.YtdmdgkpjjpijdaaGreatDoor
