/- YtdmdgkpjjpijdaaGreatDoor: walks, part 191: the reference's reader: fields. -/
import Derived.Test.YtdmdgkpjjpijdaaGreatDoorW190
namespace Go.Proofs.YtdmdgkpjjpijdaaGreatDoor
open Go Go.K
set_option maxRecDepth 100000
set_option linter.unusedVariables false
set_option linter.unusedSimpArgs false
set_option maxHeartbeats 16000000
theorem inner_all (d : Nat) (hF : FieldRR d) : ∀ k : Nat,14 ≤ k → k ≤ 20 → InnerRR d k k := by
  have hM := manyR_step d hF
  intro k h1 h2
  have hk : k = 14 ∨ k = 15 ∨ k = 16 ∨ k = 17 ∨ k = 18 ∨ k = 19 ∨ k = 20 := by omega
  rcases hk with rfl | rfl | rfl | rfl | rfl | rfl | rfl
  · exact inner14 d hF hM
  · exact inner15 d hF hM
  · exact inner16 d hF hM
  · exact inner17 d hF hM
  · exact inner18 d hF hM
  · exact inner19 d hF hM
  · exact inner20 d hF hM
theorem pTyped_eq (s : List UInt8) (F : Nat → PR Fz) (q : Nat) : pTyped s F q = (pKind s (fun _ => true) q).and fun k r => if k < 14 then .ok ⟨k,0,0,0,[]⟩ r else pBrack s F k r := rfl
def nullP (s : List UInt8) (nm : List UInt8) (t : Ty) (q r : Nat) : PR Fz := match pSign s 63 r with
  | some r2 => .ok (mkF nm true t q) r2
  | none => .ok (mkF nm false t q) r
theorem pField_eq (s : List UInt8) (d q : Nat) : pField s (d + 1) q = (pWord s q).and fun nm r => (pTyped s (pField s d) r).and fun t r => nullP s nm t q r := rfl
abbrev fdN (l : List UInt8) : Fld := .mk l false 0 0 0 0 []
theorem own_leaf {l : List UInt8} {nl : Bool} {k wd id ix : Int} (h : l.length ≤ 9223372036854775807) : OwF (.mk l nl k wd id ix []) [] none 0 := OwS.toF (f := .mk l nl k wd id ix []) ((OwS_iff _ _ _ _).2 (.inl ⟨rfl,rfl,rfl,rfl⟩)) h
theorem own_fdN {l : List UInt8} (h : l.length ≤ 9223372036854775807) : OwF (fdN l) [] none 0 := OwS.toF (f := fdN l) ((OwS_iff _ _ _ _).2 (.inl ⟨rfl,rfl,rfl,rfl⟩)) h
theorem fieldR_step (d : Nat) (hF : FieldRR d) : FieldRR (d + 1) := by
  intro wb w rb s p ft N nv RN M hQ hd
  have hs := hQ.hs
  have hp := hQ.hp
  have hsee : ∀ (p : Nat) (ft : Int) (v : Value) (M : Own),p ≤ s.length → ∀ w',Sy wb (oRr rb s p ft v :: M) w' → Calls Tryz.prog 41 #[.pointer (some ⟨rb,0,none⟩)] w' (Rets w' (Is (.agg (tokP s p).cells))) := fun p ft v M hp w' hw' => seeR_walk w' rb s p hs hp (At.of_own hw' (.head _) rfl)
  refine enterB (args := [.pointer (some ⟨rb,0,none⟩)]) Tryz.func50 rfl Tryz.ntmps50 (congrArg Array.toList Tryz.results50) (by kernel_rfl) (by simp) hQ.hw ?_
  simp (disch:=omega) only[push_cast,Nat.reduceEqDiff]
  refine newI (fun b2 hb2 hn2 => ?_)
  simp (disch:=omega) only[push_cast,Nat.reduceEqDiff]
  have hbp : blP s p ≤ s.length := runP_le hp
  refine callV en_41 (callX_weak (L' := oRr rb s p ft nv :: (RN ++ (oFi b2 (fdN []) none 0 :: M))) (fun w hw => hw.perm (permC (fun f => by simp only [wt_append,wt_cons,wt_nil] <;> omega) : List.Perm (oFi b2 (fdN []) none 0 :: oRr rb s p ft nv :: (RN ++ M)) (oRr rb s p ft nv :: (RN ++ (oFi b2 (fdN []) none 0 :: M))))) (callX_is (v := .agg #[i64 (tokP s p).k,str (tokP s p).tx,i64 (blP s p),i64 (tokP s p).nx,i64 (tokP s p).ft]) (fun w' hw' => by
    have h := hsee p ft nv _ hp w' hw'
    rw [← tok_at s p]
    exact h) ?_))
  simp (disch:=omega) only[push_cast,Nat.reduceEqDiff]
  refine callV en_79 (callX_own (S := fun x L' => ∃ (l : List UInt8) (p' : Nat) (ft' : Int),x = str l ∧ l.length ≤ s.length ∧ StepR s ft p (pWord s (blP s p)) (fun y => l = y ∧ p < p') p' ft' ∧ L' = oRr rb s p' ft' nv :: (RN ++ (oFi b2 (fdN []) none 0 :: M))) (fun w' hw' => nameR_walk wb w' rb s p ft nv _ hs hp hQ.hft hQ.hrb hw') (fun v9 L9 hv9 => ?_))
  (refine Exists.elim (hv9) (fun l hz => Exists.elim hz (fun p1 hz => Exists.elim hz (fun ft1 hz => ?_))); have ez := hz.1; subst ez; have hll := hz.2.1; have hm1 := hz.2.2.1; have ez := hz.2.2.2; subst ez; clear hz)
  have q1 := hm1.1
  have hp1 := hm1.2.1
  have hl63 : l.length ≤ 9223372036854775807 := by omega
  simp (disch:=omega) only[push_cast,Nat.reduceEqDiff]
  refine newI (fun b4 hb4 hn4 => ?_)
  simp (disch:=omega) only[push_cast,Nat.reduceEqDiff]
  refine storeX 0 rfl Siz.eq rfl rfl (by simp [Value.oneCell']) (by simp) ?_
  simp (disch:=omega) only[push_cast,Nat.reduceEqDiff]
  refine ldOne Shp.eq mem1 rfl ?_
  simp (disch:=omega) only[push_cast,Nat.reduceEqDiff]
  rw [V_cond]
  simp (disch:=omega) only[push_cast,Nat.reduceEqDiff]
  have hNp := hQ.hNp
  refine condX_d (fun hbad => ?_) (fun hgood => ?_)
  · have hst : StepR s ft p (pField s (d + 1) (blP s p)) (fun y => fdN l = y.1 ∧ N = N ++ preP y.2) p1 ft1 := by
      rw [pField_eq]
      exact hm1.bind (fun _ _ h _ _ => absurd hbad (by omega)) (fun h => ⟨Nat.le_refl _,hp1,rfl⟩)
    simp (disch:=omega) only[push_cast,Nat.reduceEqDiff]
    refine loadX_agg Shp.eq (.head _) rfl rfl ?_
    simp (disch:=omega) only[push_cast,Nat.reduceEqDiff]
    refine storeX_weak (L' := oFi b2 (fdN []) none 0 :: oFi b4 (fdN l) none 0 :: oRr rb s p1 ft1 nv :: (RN ++ (M))) (fun w hw => hw.perm (permC (fun f => by simp only [wt_append,wt_cons,wt_nil] <;> omega) : List.Perm (oFi b4 (fdN l) none 0 :: oRr rb s p1 ft1 nv :: (RN ++ (oFi b2 (fdN []) none 0 :: M))) (oFi b2 (fdN []) none 0 :: oFi b4 (fdN l) none 0 :: oRr rb s p1 ft1 nv :: (RN ++ (M))))) (storeX 0 rfl Siz.eq rfl rfl (by simp [Value.oneCell']) (by simp) ?_)
    simp (disch:=omega) only[push_cast,Nat.reduceEqDiff]
    refine loadX_agg Shp.eq mem0 rfl rfl ?_
    simp (disch:=omega) only[push_cast,Nat.reduceEqDiff]
    refine fun w' hw' => ⟨_,oRr rb s p1 ft1 nv :: (RN ++ (M)),rfl,Sy.left (A := [oFi b2 (fdN l) none 0,oFi b4 (fdN l) none 0]) hw' (fun b hb => ?_),(fdN l),none,0,[],p1,ft1,N,nv,RN,rfl,own_fdN hl63,hQ.hN,by first | omega | (simp only [List.length_append,List.length_cons,List.length_nil]; omega),fun b hb => (by cases hb),hst,by first | rfl | (rw [List.nil_append]; done) | (rw [List.nil_append,Int.natCast_add]; rfl) | (rw [Int.natCast_add]; rfl)⟩
    simp only [List.mem_cons,List.mem_nil_iff,or_false] at hb
    rcases hb with rfl | rfl
    · exact hb2
    · exact hb4
  obtain ⟨hft,hft1,nm,hw1,⟨hln,hlt1⟩⟩ : ft = -1 ∧ ft1 = -1 ∧ ∃ x,pWord s (blP s p) = .ok x (blP s p1) ∧ (l = x ∧ p < p1) := by
    rcases hm1.2.2 with ⟨h1,h2,x,h3,h4⟩ | ⟨h,_⟩
    · exact ⟨h1,h2,x,h3,h4⟩
    · omega
  subst hft hft1 hln
  simp (disch:=omega) only[push_cast,Nat.reduceEqDiff]
  refine ldOne Shp.eq mem1 rfl ?_
  simp (disch:=omega) only[push_cast,Nat.reduceEqDiff]
  refine bs_49_1 (newI fun b9 hb9 hn9 => ?_)
  simp (disch:=omega) only[push_cast,Nat.reduceEqDiff]
  refine valX_weak (L' := RN ++ ((b9,Obj.cells #[i64 (blP s p)] 3 (0,0)) :: oFi b4 (fdN l) none 0 :: oRr rb s p1 (-1) nv :: oFi b2 (fdN []) none 0 :: M)) (fun w hw => hw.perm (permC (fun f => by simp only [wt_append,wt_cons,wt_nil] <;> omega) : List.Perm ((b9,Obj.cells #[i64 (blP s p)] 3 (0,0)) :: oFi b4 (fdN l) none 0 :: oRr rb s p1 (-1) nv :: (RN ++ (oFi b2 (fdN []) none 0 :: M))) (RN ++ ((b9,Obj.cells #[i64 (blP s p)] 3 (0,0)) :: oFi b4 (fdN l) none 0 :: oRr rb s p1 (-1) nv :: oFi b2 (fdN []) none 0 :: M)))) (appendI un_49 infoIntN rfl (m := 1) (news := [i64 (blP s p)]) (RowO.frame hQ.hN) rfl (CanRead.of_own (e := 3) (b := b9) (cs := [i64 (blP s p)]) (n := 1) (List.mem_append_right _ (.head _)) rfl rfl) (by simp [Value.oneCell']) (by simp only [maxLen]; omega) (by omega) (fun v5 L5 hro5 _ => ?_))
  (refine Exists.elim (RowO.unframe hro5) (fun RN1 hz => ?_); have ez := hz.1; subst ez; have hN0 := hz.2; clear hz)
  obtain ⟨na,n1,nc,rfl⟩ : ∃ (na : Option Addr) (n1 nc : Nat),v5 = .slice na n1 nc := by
    obtain ⟨a,c,h⟩ := hN0.is_slice
    exact ⟨a,_,c,h⟩
  have hN1 : RowO wb 3 1 RN1 [] (.slice na n1 nc) (N ++ [blP s p]).length (ints (N ++ [blP s p])) := hN0.cast (by simp) (by simp [ints])
  simp (disch:=omega) only[push_cast,Nat.reduceEqDiff]
  refine storeX_weak (L' := oRr rb s p1 (-1) nv :: (RN1 ++ (oFi b4 (fdN l) none 0 :: oFi b2 (fdN []) none 0 :: M))) (fun w hw => Sy.left (A := [(b9,Obj.cells #[i64 (blP s p)] 3 (0,0))]) (hw.perm (permC (fun f => by simp only [wt_append,wt_cons,wt_nil] <;> omega) : List.Perm (RN1 ++ ((b9,Obj.cells #[i64 (blP s p)] 3 (0,0)) :: oFi b4 (fdN l) none 0 :: oRr rb s p1 (-1) nv :: oFi b2 (fdN []) none 0 :: M)) ([(b9,Obj.cells #[i64 (blP s p)] 3 (0,0))] ++ (oRr rb s p1 (-1) nv :: (RN1 ++ (oFi b4 (fdN l) none 0 :: oFi b2 (fdN []) none 0 :: M)))))) (fun b hb => by rw [List.mem_singleton.1 hb]; exact hb9)) (storeX 0 rfl Siz.eq rfl rfl (by simp [Value.oneCell']) (by simp) ?_)
  simp (disch:=omega) only[push_cast,Nat.reduceEqDiff]
  have hsee1 := hsee p1 (-1) (.slice na n1 nc) (RN1 ++ (oFi b4 (fdN l) none 0 :: oFi b2 (fdN []) none 0 :: M)) hp1
  have htw := tok_word s p1
  generalize tokP s p1 = t at hsee1 htw
  refine callV en_41 (callX_is hsee1 ?_)
  simp (disch:=omega) only[push_cast,Nat.reduceEqDiff]
  refine newI (fun b5 hb5 hn5 => ?_)
  simp (disch:=omega) only[push_cast,Nat.reduceEqDiff]
  refine storeX 0 rfl Siz.eq rfl rfl (by simp [Value.oneCell']) (by simp) ?_
  simp (disch:=omega) only[push_cast,Nat.reduceEqDiff]
  refine ldOne Shp.eq mem0 rfl ?_
  simp (disch:=omega) only[push_cast,Nat.reduceEqDiff]
  rw [V_cond]
  simp (disch:=omega) only[push_cast,Nat.reduceEqDiff]
  refine condX_d (fun hk => ?_) (fun hk => ?_)
  rotate_left
  · have hkno : pKind s (fun _ => true) (blP s p1) = .no (blP s p1) := by
      unfold pKind pWord
      rcases htw with ⟨h,_⟩ | ⟨_,h⟩
      · omega
      · rw [if_pos h,PR.and_no]
    simp (disch:=omega) only[push_cast,Nat.reduceEqDiff,decide_true]
    rw [V_cond]
    simp (disch:=omega) only[push_cast,Nat.reduceEqDiff,decide_true]
    refine callV en_75 (callX_weak (L' := oRr rb s p1 (-1) (.slice na n1 nc) :: (RN1 ++ (oFi b4 (fdN l) none 0 :: oFi b2 (fdN []) none 0 :: M))) (fun w hw => Sy.left (A := [oTk b5 t.k t.tx t.at_ t.nx t.ft]) hw (fun b hb => by rw [List.mem_singleton.1 hb]; exact hb5)) (callX_unit (L' := oRr rb s p1 ((blP s p1 : Nat) : Int) (.slice na n1 nc) :: (RN1 ++ (oFi b4 (fdN l) none 0 :: oFi b2 (fdN []) none 0 :: M))) (fun w' hw' => by
      have h := badR_walk wb w' rb s p1 (-1) (.slice na n1 nc) _ hs hp1 hQ.hrb hw'
      rw [if_pos (by decide)] at h
      exact h) ?_))
    simp (disch:=omega) only[push_cast,Nat.reduceEqDiff]
    have hst : StepR s (-1) p (pField s (d + 1) (blP s p)) (fun y => fdN l = y.1 ∧ (N ++ [blP s p]) = N ++ preP y.2) p1 ((blP s p1 : Nat) : Int) := by
      rw [pField_eq]
      refine hm1.bind (fun x _ _ _ _ => ?_) (fun h => by omega)
      refine ⟨Nat.le_refl _,hp1,.inr ⟨by omega,fun _ => ⟨blP s p1,?_,rfl⟩,fun h => by omega⟩⟩
      rw [pTyped_eq,hkno,PR.and_no,PR.and_no]
    refine loadX_agg Shp.eq (.tail _ (List.mem_append_right _ (.head _))) rfl rfl ?_
    simp (disch:=omega) only[push_cast,Nat.reduceEqDiff]
    refine storeX_weak (L' := oFi b2 (fdN []) none 0 :: oFi b4 (fdN l) none 0 :: oRr rb s p1 ((blP s p1 : Nat) : Int) (.slice na n1 nc) :: (RN1 ++ (M))) (fun w hw => hw.perm (permC (fun f => by simp only [wt_append,wt_cons,wt_nil] <;> omega) : List.Perm (oRr rb s p1 ((blP s p1 : Nat) : Int) (.slice na n1 nc) :: (RN1 ++ (oFi b4 (fdN l) none 0 :: oFi b2 (fdN []) none 0 :: M))) (oFi b2 (fdN []) none 0 :: oFi b4 (fdN l) none 0 :: oRr rb s p1 ((blP s p1 : Nat) : Int) (.slice na n1 nc) :: (RN1 ++ (M))))) (storeX 0 rfl Siz.eq rfl rfl (by simp [Value.oneCell']) (by simp) ?_)
    simp (disch:=omega) only[push_cast,Nat.reduceEqDiff]
    refine loadX_agg Shp.eq mem0 rfl rfl ?_
    simp (disch:=omega) only[push_cast,Nat.reduceEqDiff]
    refine fun w' hw' => ⟨_,oRr rb s p1 ((blP s p1 : Nat) : Int) (.slice na n1 nc) :: (RN1 ++ (M)),rfl,Sy.left (A := [oFi b2 (fdN l) none 0,oFi b4 (fdN l) none 0]) hw' (fun b hb => ?_),(fdN l),none,0,[],p1,((blP s p1 : Nat) : Int),(N ++ [blP s p]),(.slice na n1 nc),RN1,rfl,own_fdN hl63,hN1,by first | omega | (simp only [List.length_append,List.length_cons,List.length_nil]; omega),fun b hb => (by cases hb),hst,by first | rfl | (rw [List.nil_append]; done) | (rw [List.nil_append,Int.natCast_add]; rfl) | (rw [Int.natCast_add]; rfl)⟩
    simp only [List.mem_cons,List.mem_nil_iff,or_false] at hb
    rcases hb with rfl | rfl
    · exact hb2
    · exact hb4
  obtain ⟨hw2,hnx1,hnx2⟩ : pWord s (blP s p1) = .ok t.tx (blP s t.nx) ∧ p1 < t.nx ∧ t.nx ≤ s.length := by
    rcases htw with ⟨_,h1,h2,h3⟩ | ⟨h,_⟩
    · have hq1 : blP s p1 ≤ s.length := runP_le hp1
      have hwl : weP s (blP s p1) ≤ s.length := runP_le hq1
      have hwg : blP s p1 ≤ weP s (blP s p1) := runP_ge _ _ _
      have hbg : p1 ≤ blP s p1 := runP_ge _ _ _
      refine ⟨?_,by omega,by omega⟩
      unfold pWord
      rw [if_neg h1,h2,h3]
    · omega
  have hkk : pKind s (fun _ => true) (blP s p1) = if kindW t.tx ≠ 0 then .ok (kindW t.tx) (blP s t.nx) else .no (blP s p1) := by
    unfold pKind
    rw [hw2,PR.and_ok]
    by_cases h0 : kindW t.tx = 0
    · rw [if_neg (fun h => h.1 h0),if_neg (fun h => h h0)]
    · rw [if_pos ⟨h0,rfl⟩,if_pos h0]
  have hcase : (kindW t.tx = 0 ∧ kP t.tx = 0 ∧ kO t.tx = 0) ∨ (1 ≤ kindW t.tx ∧ kindW t.tx ≤ 13 ∧ kP t.tx = kindW t.tx ∧ kO t.tx = 0) ∨ (14 ≤ kindW t.tx ∧ kindW t.tx ≤ 20 ∧ kP t.tx = 0 ∧ kO t.tx = kindW t.tx) := by
    unfold kP kO
    by_cases h0 : kindW t.tx = 0
    · exact .inl ⟨h0,by rw [h0]; rfl,by rw [h0]; rfl⟩
    · obtain ⟨b1,b2,_⟩ := kindW_word h0
      by_cases h13 : kindW t.tx ≤ 13
      · exact .inr (.inl ⟨b1,h13,if_pos h13,if_neg (by omega)⟩)
      · exact .inr (.inr ⟨by omega,by omega,if_neg h13,if_pos (by omega)⟩)
  have hNl : N.length + 1 ≤ p1 := by omega
  rcases hcase with ⟨hk0,hkP,hkO⟩ | ⟨hk1,hk2,hkP,hkO⟩ | ⟨hk1,hk2,hkP,hkO⟩
  · have hkno : pKind s (fun _ => true) (blP s p1) = .no (blP s p1) := by rw [hkk,if_neg (fun h => h hk0)]
    refine drawQT (by kernel_rfl) (by kernel_rfl) mixed (by kernel_rfl) ?_
    simp (disch:=omega) only[push_cast,Nat.reduceEqDiff,decide_true]
    refine ldOne Shp.eq mem0 rfl ?_
    simp (disch:=omega) only[push_cast,Nat.reduceEqDiff,decide_true]
    refine qcallV en_80 (qcallX_is (i64 0) (fun w' _ => by
      have h := kindOf_walk w' t.tx
      rw [hkP] at h
      exact h) ?_)
    simp (disch:=omega) only[push_cast,Nat.reduceEqDiff,decide_true]
    refine ldOne Shp.eq mem0 rfl ?_
    simp (disch:=omega) only[push_cast,Nat.reduceEqDiff,decide_true]
    refine qcallV en_81 (qcallX_is (i64 0) (fun w' _ => by
      have h := kindOfOpen_walk w' t.tx
      rw [hkO] at h
      exact h) ?_)
    simp (disch:=omega) only[push_cast,Nat.reduceEqDiff,decide_true]
    rw [V_cond]
    simp (disch:=omega) only[push_cast,Nat.reduceEqDiff,decide_true]
    refine callV en_75 (callX_weak (L' := oRr rb s p1 (-1) (.slice na n1 nc) :: (RN1 ++ (oFi b4 (fdN l) none 0 :: oFi b2 (fdN []) none 0 :: M))) (fun w hw => Sy.left (A := [oTk b5 t.k t.tx t.at_ t.nx t.ft]) hw (fun b hb => by rw [List.mem_singleton.1 hb]; exact hb5)) (callX_unit (L' := oRr rb s p1 ((blP s p1 : Nat) : Int) (.slice na n1 nc) :: (RN1 ++ (oFi b4 (fdN l) none 0 :: oFi b2 (fdN []) none 0 :: M))) (fun w' hw' => by
      have h := badR_walk wb w' rb s p1 (-1) (.slice na n1 nc) _ hs hp1 hQ.hrb hw'
      rw [if_pos (by decide)] at h
      exact h) ?_))
    simp (disch:=omega) only[push_cast,Nat.reduceEqDiff]
    have hst : StepR s (-1) p (pField s (d + 1) (blP s p)) (fun y => fdN l = y.1 ∧ (N ++ [blP s p]) = N ++ preP y.2) p1 ((blP s p1 : Nat) : Int) := by
      rw [pField_eq]
      refine hm1.bind (fun x _ _ _ _ => ?_) (fun h => by omega)
      refine ⟨Nat.le_refl _,hp1,.inr ⟨by omega,fun _ => ⟨blP s p1,?_,rfl⟩,fun h => by omega⟩⟩
      rw [pTyped_eq,hkno,PR.and_no,PR.and_no]
    refine loadX_agg Shp.eq (.tail _ (List.mem_append_right _ (.head _))) rfl rfl ?_
    simp (disch:=omega) only[push_cast,Nat.reduceEqDiff]
    refine storeX_weak (L' := oFi b2 (fdN []) none 0 :: oFi b4 (fdN l) none 0 :: oRr rb s p1 ((blP s p1 : Nat) : Int) (.slice na n1 nc) :: (RN1 ++ (M))) (fun w hw => hw.perm (permC (fun f => by simp only [wt_append,wt_cons,wt_nil] <;> omega) : List.Perm (oRr rb s p1 ((blP s p1 : Nat) : Int) (.slice na n1 nc) :: (RN1 ++ (oFi b4 (fdN l) none 0 :: oFi b2 (fdN []) none 0 :: M))) (oFi b2 (fdN []) none 0 :: oFi b4 (fdN l) none 0 :: oRr rb s p1 ((blP s p1 : Nat) : Int) (.slice na n1 nc) :: (RN1 ++ (M))))) (storeX 0 rfl Siz.eq rfl rfl (by simp [Value.oneCell']) (by simp) ?_)
    simp (disch:=omega) only[push_cast,Nat.reduceEqDiff]
    refine loadX_agg Shp.eq mem0 rfl rfl ?_
    simp (disch:=omega) only[push_cast,Nat.reduceEqDiff]
    refine fun w' hw' => ⟨_,oRr rb s p1 ((blP s p1 : Nat) : Int) (.slice na n1 nc) :: (RN1 ++ (M)),rfl,Sy.left (A := [oFi b2 (fdN l) none 0,oFi b4 (fdN l) none 0]) hw' (fun b hb => ?_),(fdN l),none,0,[],p1,((blP s p1 : Nat) : Int),(N ++ [blP s p]),(.slice na n1 nc),RN1,rfl,own_fdN hl63,hN1,by first | omega | (simp only [List.length_append,List.length_cons,List.length_nil]; omega),fun b hb => (by cases hb),hst,by first | rfl | (rw [List.nil_append]; done) | (rw [List.nil_append,Int.natCast_add]; rfl) | (rw [Int.natCast_add]; rfl)⟩
    simp only [List.mem_cons,List.mem_nil_iff,or_false] at hb
    rcases hb with rfl | rfl
    · exact hb2
    · exact hb4
  · generalize kindW t.tx = k at hkk hk1 hk2 hkP
    refine drawQT (by kernel_rfl) (by kernel_rfl) mixed (by kernel_rfl) ?_
    simp (disch:=omega) only[push_cast,Nat.reduceEqDiff]
    refine ldOne Shp.eq mem0 rfl ?_
    simp (disch:=omega) only[push_cast,Nat.reduceEqDiff]
    refine qcallV en_80 (qcallX_is (i64 k) (fun w' _ => by
      have h := kindOf_walk w' t.tx
      rw [hkP] at h
      exact h) ?_)
    simp (disch:=omega) only[push_cast,Nat.reduceEqDiff]
    refine ldOne Shp.eq mem0 rfl ?_
    simp (disch:=omega) only[push_cast,Nat.reduceEqDiff]
    refine qcallV en_81 (qcallX_is (i64 0) (fun w' _ => by
      have h := kindOfOpen_walk w' t.tx
      rw [hkO] at h
      exact h) ?_)
    simp (disch:=omega) only[push_cast,Nat.reduceEqDiff]
    have hm2 : StepR s (-1) p1 (pTyped s (pField s d) (blP s p1)) (fun y => (k : Int) = y.k ∧ (0 : Int) = y.wd ∧ (0 : Int) = y.id ∧ (0 : Int) = y.ix ∧ ([] : List Fld) = y.l.map (·.1) ∧ N ++ [blP s p] = (N ++ [blP s p]) ++ preL (y.l.map (·.2))) t.nx (-1) := ⟨by omega,hnx2,.inl ⟨rfl,rfl,⟨k,0,0,0,[]⟩,by rw [pTyped_eq,hkk,if_pos (by omega),PR.and_ok,if_pos (by omega)],rfl,rfl,rfl,rfl,rfl,by simp [preL]⟩⟩
    refine guardX_t rfl (fun h => ?_) (fun _ => ?_)
    · exfalso; omega
    simp (disch:=omega) only[push_cast,Nat.reduceEqDiff]
    rw [V_cond]
    simp (disch:=omega) only[push_cast,Nat.reduceEqDiff]
    refine ldOne Shp.eq mem0 rfl ?_
    simp (disch:=omega) only[push_cast,Nat.reduceEqDiff]
    refine storeX 1 rfl Siz.eq rfl rfl (by simp [Value.oneCell']) (by simp) ?_
    simp (disch:=omega) only[push_cast,Nat.reduceEqDiff]
    refine storeX_weak (L' := oFi b4 (fdN l) none 0 :: oTk b5 t.k t.tx t.at_ t.nx t.ft :: oRr rb s t.nx (-1) (.slice na n1 nc) :: (RN1 ++ (oFi b2 (fdN []) none 0 :: M))) (fun w hw => hw.perm (permC (fun f => by simp only [wt_append,wt_cons,wt_nil] <;> omega) : List.Perm (oTk b5 t.k t.tx t.at_ t.nx t.ft :: oRr rb s t.nx (-1) (.slice na n1 nc) :: (RN1 ++ (oFi b4 (fdN l) none 0 :: oFi b2 (fdN []) none 0 :: M))) (oFi b4 (fdN l) none 0 :: oTk b5 t.k t.tx t.at_ t.nx t.ft :: oRr rb s t.nx (-1) (.slice na n1 nc) :: (RN1 ++ (oFi b2 (fdN []) none 0 :: M))))) (storeX 0 rfl Siz.eq rfl rfl (by simp [Value.oneCell']) (by simp) ?_)
    simp (disch:=omega) only[push_cast,Nat.reduceEqDiff,ne_eq,not_true_eq_false,decide_false]
    rw [V_cond]
    simp (disch:=omega) only[push_cast,Nat.reduceEqDiff,ne_eq,not_true_eq_false,decide_false]
    refine callV en_43 (callX_weak (L' := oRr rb s t.nx (-1) (.slice na n1 nc) :: (RN1 ++ (oFi b4 (.mk l false k 0 0 0 []) none 0 :: oFi b2 (fdN []) none 0 :: M))) (fun w hw => Sy.left (A := [oTk b5 t.k t.tx t.at_ t.nx t.ft]) (hw.perm (permC (fun f => by simp only [wt_append,wt_cons,wt_nil] <;> omega) : List.Perm (oFi b4 (.mk l false k 0 0 0 []) none 0 :: oTk b5 t.k t.tx t.at_ t.nx t.ft :: oRr rb s t.nx (-1) (.slice na n1 nc) :: (RN1 ++ (oFi b2 (fdN []) none 0 :: M))) ([oTk b5 t.k t.tx t.at_ t.nx t.ft] ++ (oRr rb s t.nx (-1) (.slice na n1 nc) :: (RN1 ++ (oFi b4 (.mk l false k 0 0 0 []) none 0 :: oFi b2 (fdN []) none 0 :: M)))))) (fun b hb => by rw [List.mem_singleton.1 hb]; exact hb5)) (callX_two (fun L' => (-1) = -1 ∧ s[blP s t.nx]? = some 63 ∧ L' = oRr rb s ((blP s t.nx + 1 : Nat) : Int) (-1) (.slice na n1 nc) :: (RN1 ++ (oFi b4 (.mk l false k 0 0 0 []) none 0 :: oFi b2 (fdN []) none 0 :: M))) (fun L' => ¬ ((-1) = -1 ∧ s[blP s t.nx]? = some 63) ∧ L' = oRr rb s t.nx (-1) (.slice na n1 nc) :: (RN1 ++ (oFi b4 (.mk l false k 0 0 0 []) none 0 :: oFi b2 (fdN []) none 0 :: M))) (fun w' hw' => signR_walk wb w' rb s t.nx (-1) (.slice na n1 nc) _ 63 (by decide) hs hnx2 (.inl rfl) hQ.hrb hw') (fun L' hL' => ?_) (fun L' hL' => ?_)))
    · have g1 := hL'.1
      have g2 := hL'.2.1
      have g3 := hL'.2.2
      subst g3
      clear hL'
      have hlt6 := (List.getElem?_eq_some_iff.1 g2).1
      have hge6 : t.nx ≤ blP s t.nx := runP_ge _ _ _
      have hst : StepR s (-1) p (pField s (d + 1) (blP s p)) (fun y => (.mk l true k 0 0 0 []) = y.1 ∧ (N ++ [blP s p]) = N ++ preP y.2) (blP s t.nx + 1) (-1) := by
        rw [pField_eq]
        refine hm1.bind (fun x _ _ o1 _ => ?_) (fun h => by omega)
        obtain rfl : l = x := o1.1
        refine hm2.bind (fun T _ g o2 _ => ?_) (fun h => by omega)
        have hm3 : StepR s (-1) t.nx (nullP s l T (blP s p) (blP s t.nx)) (fun y => y = mkF l true T (blP s p)) (blP s t.nx + 1) (-1) := by
          refine ⟨Nat.le_trans (runP_ge _ _ _) (Nat.le_succ _),by omega,.inl ⟨rfl,g1,mkF l true T (blP s p),?_,rfl⟩⟩
          unfold nullP pSign
          rw [if_pos g2]
        refine StepR.of hm3 (fun _ z hz => ?_)
        subst hz
        obtain ⟨e1,e2,e3,e4,e5,e6⟩ := o2
        refine ⟨?_,?_⟩
        · simp only [mkF]
          rw [← e1,← e2,← e3,← e4,← e5]
        · rw [e6,List.append_assoc]
          simp only [mkF,preP]
          rfl
      skip
      simp (disch:=omega) only[push_cast,Nat.reduceEqDiff]
      refine storeX_weak (L' := oFi b4 (.mk l false k 0 0 0 []) none 0 :: oRr rb s (blP s t.nx + 1) (-1) (.slice na n1 nc) :: (RN1 ++ (oFi b2 (fdN []) none 0 :: M))) (fun w hw => hw.perm (permC (fun f => by simp only [wt_append,wt_cons,wt_nil] <;> omega) : List.Perm (oRr rb s (blP s t.nx + 1) (-1) (.slice na n1 nc) :: (RN1 ++ (oFi b4 (.mk l false k 0 0 0 []) none 0 :: oFi b2 (fdN []) none 0 :: M))) (oFi b4 (.mk l false k 0 0 0 []) none 0 :: oRr rb s (blP s t.nx + 1) (-1) (.slice na n1 nc) :: (RN1 ++ (oFi b2 (fdN []) none 0 :: M))))) (storeX 0 rfl Siz.eq rfl rfl (by simp [Value.oneCell']) (by simp) ?_)
      simp (disch:=omega) only[push_cast,Nat.reduceEqDiff]
      refine loadX_agg Shp.eq (.head _) rfl rfl ?_
      simp (disch:=omega) only[push_cast,Nat.reduceEqDiff]
      refine storeX_weak (L' := oFi b2 (fdN []) none 0 :: oFi b4 (.mk l true k 0 0 0 []) none 0 :: oRr rb s (blP s t.nx + 1) (-1) (.slice na n1 nc) :: (RN1 ++ (M))) (fun w hw => hw.perm (permC (fun f => by simp only [wt_append,wt_cons,wt_nil] <;> omega) : List.Perm (oFi b4 (.mk l true k 0 0 0 []) none 0 :: oRr rb s (blP s t.nx + 1) (-1) (.slice na n1 nc) :: (RN1 ++ (oFi b2 (fdN []) none 0 :: M))) (oFi b2 (fdN []) none 0 :: oFi b4 (.mk l true k 0 0 0 []) none 0 :: oRr rb s (blP s t.nx + 1) (-1) (.slice na n1 nc) :: (RN1 ++ (M))))) (storeX 0 rfl Siz.eq rfl rfl (by simp [Value.oneCell']) (by simp) ?_)
      simp (disch:=omega) only[push_cast,Nat.reduceEqDiff]
      refine loadX_agg Shp.eq mem0 rfl rfl ?_
      simp (disch:=omega) only[push_cast,Nat.reduceEqDiff]
      refine fun w' hw' => ⟨_,oRr rb s (blP s t.nx + 1) (-1) (.slice na n1 nc) :: (RN1 ++ (M)),rfl,Sy.left (A := [oFi b2 (.mk l true k 0 0 0 []) none 0,oFi b4 (.mk l true k 0 0 0 []) none 0]) hw' (fun b hb => ?_),(.mk l true k 0 0 0 []),none,0,[],(blP s t.nx + 1),(-1),(N ++ [blP s p]),(.slice na n1 nc),RN1,rfl,own_leaf hl63,hN1,by first | omega | (simp only [List.length_append,List.length_cons,List.length_nil]; omega),fun b hb => (by cases hb),hst,by first | rfl | (rw [List.nil_append]; done) | (rw [List.nil_append,Int.natCast_add]; rfl) | (rw [Int.natCast_add]; rfl)⟩
      simp only [List.mem_cons,List.mem_nil_iff,or_false] at hb
      rcases hb with rfl | rfl
      · exact hb2
      · exact hb4
    · have g1 := hL'.1
      have g3 := hL'.2
      subst g3
      clear hL'
      have hst : StepR s (-1) p (pField s (d + 1) (blP s p)) (fun y => (.mk l false k 0 0 0 []) = y.1 ∧ (N ++ [blP s p]) = N ++ preP y.2) t.nx (-1) := by
        rw [pField_eq]
        refine hm1.bind (fun x _ _ o1 _ => ?_) (fun h => by omega)
        obtain rfl : l = x := o1.1
        refine hm2.bind (fun T _ g o2 _ => ?_) (fun h => ⟨Nat.le_refl _,hnx2,rfl⟩)
        have hm3 : StepR s (-1) t.nx (nullP s l T (blP s p) (blP s t.nx)) (fun y => y = mkF l false T (blP s p)) t.nx (-1) := by
          refine ⟨Nat.le_refl _,hnx2,.inl ⟨rfl,g,mkF l false T (blP s p),?_,rfl⟩⟩
          unfold nullP pSign
          rw [if_neg (fun h => g1 ⟨g,h⟩)]
        refine StepR.of hm3 (fun _ z hz => ?_)
        subst hz
        obtain ⟨e1,e2,e3,e4,e5,e6⟩ := o2
        refine ⟨?_,?_⟩
        · simp only [mkF]
          rw [← e1,← e2,← e3,← e4,← e5]
        · rw [e6,List.append_assoc]
          simp only [mkF,preP]
          rfl
      skip
      simp (disch:=omega) only[push_cast,Nat.reduceEqDiff]
      refine storeX_weak (L' := oFi b4 (.mk l false k 0 0 0 []) none 0 :: oRr rb s t.nx (-1) (.slice na n1 nc) :: (RN1 ++ (oFi b2 (fdN []) none 0 :: M))) (fun w hw => hw.perm (permC (fun f => by simp only [wt_append,wt_cons,wt_nil] <;> omega) : List.Perm (oRr rb s t.nx (-1) (.slice na n1 nc) :: (RN1 ++ (oFi b4 (.mk l false k 0 0 0 []) none 0 :: oFi b2 (fdN []) none 0 :: M))) (oFi b4 (.mk l false k 0 0 0 []) none 0 :: oRr rb s t.nx (-1) (.slice na n1 nc) :: (RN1 ++ (oFi b2 (fdN []) none 0 :: M))))) (storeX 0 rfl Siz.eq rfl rfl (by simp [Value.oneCell']) (by simp) ?_)
      simp (disch:=omega) only[push_cast,Nat.reduceEqDiff]
      refine loadX_agg Shp.eq (.head _) rfl rfl ?_
      simp (disch:=omega) only[push_cast,Nat.reduceEqDiff]
      refine storeX_weak (L' := oFi b2 (fdN []) none 0 :: oFi b4 (.mk l false k 0 0 0 []) none 0 :: oRr rb s t.nx (-1) (.slice na n1 nc) :: (RN1 ++ (M))) (fun w hw => hw.perm (permC (fun f => by simp only [wt_append,wt_cons,wt_nil] <;> omega) : List.Perm (oFi b4 (.mk l false k 0 0 0 []) none 0 :: oRr rb s t.nx (-1) (.slice na n1 nc) :: (RN1 ++ (oFi b2 (fdN []) none 0 :: M))) (oFi b2 (fdN []) none 0 :: oFi b4 (.mk l false k 0 0 0 []) none 0 :: oRr rb s t.nx (-1) (.slice na n1 nc) :: (RN1 ++ (M))))) (storeX 0 rfl Siz.eq rfl rfl (by simp [Value.oneCell']) (by simp) ?_)
      simp (disch:=omega) only[push_cast,Nat.reduceEqDiff]
      refine loadX_agg Shp.eq mem0 rfl rfl ?_
      simp (disch:=omega) only[push_cast,Nat.reduceEqDiff]
      refine fun w' hw' => ⟨_,oRr rb s t.nx (-1) (.slice na n1 nc) :: (RN1 ++ (M)),rfl,Sy.left (A := [oFi b2 (.mk l false k 0 0 0 []) none 0,oFi b4 (.mk l false k 0 0 0 []) none 0]) hw' (fun b hb => ?_),(.mk l false k 0 0 0 []),none,0,[],t.nx,(-1),(N ++ [blP s p]),(.slice na n1 nc),RN1,rfl,own_leaf hl63,hN1,by first | omega | (simp only [List.length_append,List.length_cons,List.length_nil]; omega),fun b hb => (by cases hb),hst,by first | rfl | (rw [List.nil_append]; done) | (rw [List.nil_append,Int.natCast_add]; rfl) | (rw [Int.natCast_add]; rfl)⟩
      simp only [List.mem_cons,List.mem_nil_iff,or_false] at hb
      rcases hb with rfl | rfl
      · exact hb2
      · exact hb4
  · generalize kindW t.tx = k at hkk hk1 hk2 hkO
    refine drawQT (by kernel_rfl) (by kernel_rfl) mixed (by kernel_rfl) ?_
    simp (disch:=omega) only[push_cast,Nat.reduceEqDiff,decide_true]
    refine ldOne Shp.eq mem0 rfl ?_
    simp (disch:=omega) only[push_cast,Nat.reduceEqDiff,decide_true]
    refine qcallV en_80 (qcallX_is (i64 0) (fun w' _ => by
      have h := kindOf_walk w' t.tx
      rw [hkP] at h
      exact h) ?_)
    simp (disch:=omega) only[push_cast,Nat.reduceEqDiff,decide_true]
    refine ldOne Shp.eq mem0 rfl ?_
    simp (disch:=omega) only[push_cast,Nat.reduceEqDiff,decide_true]
    refine qcallV en_81 (qcallX_is (i64 k) (fun w' _ => by
      have h := kindOfOpen_walk w' t.tx
      rw [hkO] at h
      exact h) ?_)
    simp (disch:=omega) only[push_cast,Nat.reduceEqDiff,decide_true]
    rw [V_cond]
    simp (disch:=omega) only[push_cast,Nat.reduceEqDiff]
    refine condX_d (fun h => ?_) (fun _ => ?_)
    · exfalso; omega
    simp (disch:=omega) only[push_cast,Nat.reduceEqDiff]
    refine ldOne Shp.eq mem0 rfl ?_
    simp (disch:=omega) only[push_cast,Nat.reduceEqDiff]
    refine storeX 1 rfl Siz.eq rfl rfl (by simp [Value.oneCell']) (by simp) ?_
    simp (disch:=omega) only[push_cast,Nat.reduceEqDiff]
    refine storeX_weak (L' := oFi b4 (fdN l) none 0 :: oTk b5 t.k t.tx t.at_ t.nx t.ft :: oRr rb s t.nx (-1) (.slice na n1 nc) :: (RN1 ++ (oFi b2 (fdN []) none 0 :: M))) (fun w hw => hw.perm (permC (fun f => by simp only [wt_append,wt_cons,wt_nil] <;> omega) : List.Perm (oTk b5 t.k t.tx t.at_ t.nx t.ft :: oRr rb s t.nx (-1) (.slice na n1 nc) :: (RN1 ++ (oFi b4 (fdN l) none 0 :: oFi b2 (fdN []) none 0 :: M))) (oFi b4 (fdN l) none 0 :: oTk b5 t.k t.tx t.at_ t.nx t.ft :: oRr rb s t.nx (-1) (.slice na n1 nc) :: (RN1 ++ (oFi b2 (fdN []) none 0 :: M))))) (storeX 0 rfl Siz.eq rfl rfl (by simp [Value.oneCell']) (by simp) ?_)
    simp (disch:=omega) only[push_cast,Nat.reduceEqDiff]
    rw [V_cond]
    simp (disch:=omega) only[push_cast,Nat.reduceEqDiff]
    refine condX_d (fun _ => ?_) (fun h => ?_)
    rotate_left
    · exfalso; omega
    have hMt : ∀ b ∈ oFi b4 (fdN l) none 0 :: oFi b2 (fdN []) none 0 :: M,wb.heap.size ≤ b.1 := fun b hb => by
      simp only [List.mem_cons] at hb
      rcases hb with rfl | rfl | hb
      · exact hb4
      · exact hb2
      · exact hQ.hM b hb
    have hme : s.length - blP s t.nx < d := by
      have g1 : blP s p < blP s p1 := (pWord_le hbp hw1).1
      have g2 := blP_mono (s := s) (show p1 ≤ t.nx by omega)
      have g3 : blP s t.nx ≤ s.length := runP_le hnx2
      omega
    simp (disch:=omega) only[push_cast,Nat.reduceEqDiff]
    refine callV en_82 (callX_weak (L' := oRr rb s t.nx (-1) (.slice na n1 nc) :: (RN1 ++ (oFi b4 (fdN l) none 0 :: oFi b2 (fdN []) none 0 :: M))) (fun w hw => Sy.left (A := [oTk b5 t.k t.tx t.at_ t.nx t.ft]) (hw.perm (permC (fun f => by simp only [wt_append,wt_cons,wt_nil] <;> omega) : List.Perm (oFi b4 (fdN l) none 0 :: oTk b5 t.k t.tx t.at_ t.nx t.ft :: oRr rb s t.nx (-1) (.slice na n1 nc) :: (RN1 ++ (oFi b2 (fdN []) none 0 :: M))) ([oTk b5 t.k t.tx t.at_ t.nx t.ft] ++ (oRr rb s t.nx (-1) (.slice na n1 nc) :: (RN1 ++ (oFi b4 (fdN l) none 0 :: oFi b2 (fdN []) none 0 :: M)))))) (fun b hb => by rw [List.mem_singleton.1 hb]; exact hb5)) (callX_own (S := TypeV0 wb rb s t.nx (-1) (N ++ [blP s p]) (oFi b4 (fdN l) none 0 :: oFi b2 (fdN []) none 0 :: M) (pBrack s (pField s d) k (blP s t.nx))) (fun w' hw' => inner_all d hF k hk1 hk2 wb w' rb s t.nx (N ++ [blP s p]) (.slice na n1 nc) RN1 _ ⟨hs,hnx2,.inl rfl,hQ.hrb,hMt,hN1,by simp only [List.length_append,List.length_cons,List.length_nil]; omega,hw'⟩ hme) (fun v9 L9 hv9 => ?_)))
    (refine Exists.elim (hv9) (fun tk hz => Exists.elim hz (fun wd hz => Exists.elim hz (fun id hz => Exists.elim hz (fun ix hz => Exists.elim hz (fun lst hz => Exists.elim hz (fun la hz => Exists.elim hz (fun lc hz => Exists.elim hz (fun K3 hz => Exists.elim hz (fun p3 hz => Exists.elim hz (fun ft3 hz => Exists.elim hz (fun N3 hz => Exists.elim hz (fun nv3 hz => Exists.elim hz (fun RN3 hz => ?_))))))))))))); have ez := hz.1; subst ez; have hO3 := hz.2.1; have hN3 := hz.2.2.1; have hNp3 := hz.2.2.2.1; have hK3 := hz.2.2.2.2.1; have hm4 := hz.2.2.2.2.2.1; have ez := hz.2.2.2.2.2.2; subst ez; clear hz)
    have hm2 : StepR s (-1) p1 (pTyped s (pField s d) (blP s p1)) (fun y => tk = y.k ∧ wd = y.wd ∧ id = y.id ∧ ix = y.ix ∧ lst = y.l.map (·.1) ∧ N3 = (N ++ [blP s p]) ++ preL (y.l.map (·.2))) p3 ft3 := by
      rw [show pTyped s (pField s d) (blP s p1) = pBrack s (pField s d) k (blP s t.nx) from by rw [pTyped_eq,hkk,if_pos (by omega),PR.and_ok,if_neg (by omega)]]
      obtain ⟨h1,h2,h3⟩ := hm4
      exact ⟨by omega,h2,h3⟩
    have hp3 := hm4.2.1
    have hft3 := hm4.two
    simp (disch:=omega) only[push_cast,Nat.reduceEqDiff]
    refine storeX_weak (L' := oFi b4 (fdN l) none 0 :: oRr rb s p3 ft3 nv3 :: (RN3 ++ (K3 ++ (oFi b2 (fdN []) none 0 :: M)))) (fun w hw => hw.perm (permC (fun f => by simp only [wt_append,wt_cons,wt_nil] <;> omega) : List.Perm (oRr rb s p3 ft3 nv3 :: (RN3 ++ (K3 ++ (oFi b4 (fdN l) none 0 :: oFi b2 (fdN []) none 0 :: M)))) (oFi b4 (fdN l) none 0 :: oRr rb s p3 ft3 nv3 :: (RN3 ++ (K3 ++ (oFi b2 (fdN []) none 0 :: M)))))) (storeX 0 rfl Siz.eq rfl rfl (by simp [Value.oneCell']) (by simp) ?_)
    simp (disch:=omega) only[push_cast,Nat.reduceEqDiff]
    refine callV en_43 (callX_weak (L' := oRr rb s p3 ft3 nv3 :: (RN3 ++ (K3 ++ (oFi b4 (.mk l false tk wd id ix lst) la lc :: oFi b2 (fdN []) none 0 :: M)))) (fun w hw => hw.perm (permC (fun f => by simp only [wt_append,wt_cons,wt_nil] <;> omega) : List.Perm (oFi b4 (.mk l false tk wd id ix lst) la lc :: oRr rb s p3 ft3 nv3 :: (RN3 ++ (K3 ++ (oFi b2 (fdN []) none 0 :: M)))) (oRr rb s p3 ft3 nv3 :: (RN3 ++ (K3 ++ (oFi b4 (.mk l false tk wd id ix lst) la lc :: oFi b2 (fdN []) none 0 :: M)))))) (callX_two (fun L' => ft3 = -1 ∧ s[blP s p3]? = some 63 ∧ L' = oRr rb s ((blP s p3 + 1 : Nat) : Int) ft3 nv3 :: (RN3 ++ (K3 ++ (oFi b4 (.mk l false tk wd id ix lst) la lc :: oFi b2 (fdN []) none 0 :: M)))) (fun L' => ¬ (ft3 = -1 ∧ s[blP s p3]? = some 63) ∧ L' = oRr rb s p3 ft3 nv3 :: (RN3 ++ (K3 ++ (oFi b4 (.mk l false tk wd id ix lst) la lc :: oFi b2 (fdN []) none 0 :: M)))) (fun w' hw' => signR_walk wb w' rb s p3 ft3 nv3 _ 63 (by decide) hs hp3 hft3 hQ.hrb hw') (fun L' hL' => ?_) (fun L' hL' => ?_)))
    · have g1 := hL'.1
      have g2 := hL'.2.1
      have g3 := hL'.2.2
      subst g3
      clear hL'
      have hlt6 := (List.getElem?_eq_some_iff.1 g2).1
      have hge6 : p3 ≤ blP s p3 := runP_ge _ _ _
      have hst : StepR s (-1) p (pField s (d + 1) (blP s p)) (fun y => (.mk l true tk wd id ix lst) = y.1 ∧ N3 = N ++ preP y.2) (blP s p3 + 1) ft3 := by
        rw [pField_eq]
        refine hm1.bind (fun x _ _ o1 _ => ?_) (fun h => by omega)
        obtain rfl : l = x := o1.1
        refine hm2.bind (fun T _ g o2 _ => ?_) (fun h => by omega)
        have hm3 : StepR s (-1) p3 (nullP s l T (blP s p) (blP s p3)) (fun y => y = mkF l true T (blP s p)) (blP s p3 + 1) ft3 := by
          refine ⟨Nat.le_trans (runP_ge _ _ _) (Nat.le_succ _),by omega,.inl ⟨rfl,g1,mkF l true T (blP s p),?_,rfl⟩⟩
          unfold nullP pSign
          rw [if_pos g2]
        refine StepR.of hm3 (fun _ z hz => ?_)
        subst hz
        obtain ⟨e1,e2,e3,e4,e5,e6⟩ := o2
        refine ⟨?_,?_⟩
        · simp only [mkF]
          rw [← e1,← e2,← e3,← e4,← e5]
        · rw [e6,List.append_assoc]
          simp only [mkF,preP]
          rfl
      skip
      simp (disch:=omega) only[push_cast,Nat.reduceEqDiff]
      refine storeX_weak (L' := oFi b4 (.mk l false tk wd id ix lst) la lc :: oRr rb s (blP s p3 + 1) ft3 nv3 :: (RN3 ++ (K3 ++ (oFi b2 (fdN []) none 0 :: M)))) (fun w hw => hw.perm (permC (fun f => by simp only [wt_append,wt_cons,wt_nil] <;> omega) : List.Perm (oRr rb s (blP s p3 + 1) ft3 nv3 :: (RN3 ++ (K3 ++ (oFi b4 (.mk l false tk wd id ix lst) la lc :: oFi b2 (fdN []) none 0 :: M)))) (oFi b4 (.mk l false tk wd id ix lst) la lc :: oRr rb s (blP s p3 + 1) ft3 nv3 :: (RN3 ++ (K3 ++ (oFi b2 (fdN []) none 0 :: M)))))) (storeX 0 rfl Siz.eq rfl rfl (by simp [Value.oneCell']) (by simp) ?_)
      simp (disch:=omega) only[push_cast,Nat.reduceEqDiff]
      refine loadX_agg Shp.eq (.head _) rfl rfl ?_
      simp (disch:=omega) only[push_cast,Nat.reduceEqDiff]
      refine storeX_weak (L' := oFi b2 (fdN []) none 0 :: oFi b4 (.mk l true tk wd id ix lst) la lc :: oRr rb s (blP s p3 + 1) ft3 nv3 :: (RN3 ++ (K3 ++ M))) (fun w hw => hw.perm (permC (fun f => by simp only [wt_append,wt_cons,wt_nil] <;> omega) : List.Perm (oFi b4 (.mk l true tk wd id ix lst) la lc :: oRr rb s (blP s p3 + 1) ft3 nv3 :: (RN3 ++ (K3 ++ (oFi b2 (fdN []) none 0 :: M)))) (oFi b2 (fdN []) none 0 :: oFi b4 (.mk l true tk wd id ix lst) la lc :: oRr rb s (blP s p3 + 1) ft3 nv3 :: (RN3 ++ (K3 ++ M))))) (storeX 0 rfl Siz.eq rfl rfl (by simp [Value.oneCell']) (by simp) ?_)
      simp (disch:=omega) only[push_cast,Nat.reduceEqDiff]
      refine loadX_agg Shp.eq mem0 rfl rfl ?_
      simp (disch:=omega) only[push_cast,Nat.reduceEqDiff]
      refine fun w' hw' => ⟨_,oRr rb s (blP s p3 + 1) ft3 nv3 :: (RN3 ++ (K3 ++ M)),rfl,Sy.left (A := [oFi b2 (.mk l true tk wd id ix lst) la lc,oFi b4 (.mk l true tk wd id ix lst) la lc]) hw' (fun b hb => ?_),(.mk l true tk wd id ix lst),la,lc,K3,(blP s p3 + 1),ft3,N3,nv3,RN3,rfl,OwS.toF (f := .mk l _ tk wd id ix lst) hO3 hl63,hN3,by first | omega | (simp only [List.length_append,List.length_cons,List.length_nil]; omega),hK3,hst,by first | rfl | (rw [List.nil_append]; done) | (rw [List.nil_append,Int.natCast_add]; rfl) | (rw [Int.natCast_add]; rfl)⟩
      simp only [List.mem_cons,List.mem_nil_iff,or_false] at hb
      rcases hb with rfl | rfl
      · exact hb2
      · exact hb4
    · have g1 := hL'.1
      have g3 := hL'.2
      subst g3
      clear hL'
      have hst : StepR s (-1) p (pField s (d + 1) (blP s p)) (fun y => (.mk l false tk wd id ix lst) = y.1 ∧ N3 = N ++ preP y.2) p3 ft3 := by
        rw [pField_eq]
        refine hm1.bind (fun x _ _ o1 _ => ?_) (fun h => by omega)
        obtain rfl : l = x := o1.1
        refine hm2.bind (fun T _ g o2 _ => ?_) (fun h => ⟨Nat.le_refl _,hp3,rfl⟩)
        have hm3 : StepR s (-1) p3 (nullP s l T (blP s p) (blP s p3)) (fun y => y = mkF l false T (blP s p)) p3 ft3 := by
          refine ⟨Nat.le_refl _,hp3,.inl ⟨rfl,g,mkF l false T (blP s p),?_,rfl⟩⟩
          unfold nullP pSign
          rw [if_neg (fun h => g1 ⟨g,h⟩)]
        refine StepR.of hm3 (fun _ z hz => ?_)
        subst hz
        obtain ⟨e1,e2,e3,e4,e5,e6⟩ := o2
        refine ⟨?_,?_⟩
        · simp only [mkF]
          rw [← e1,← e2,← e3,← e4,← e5]
        · rw [e6,List.append_assoc]
          simp only [mkF,preP]
          rfl
      skip
      simp (disch:=omega) only[push_cast,Nat.reduceEqDiff]
      refine storeX_weak (L' := oFi b4 (.mk l false tk wd id ix lst) la lc :: oRr rb s p3 ft3 nv3 :: (RN3 ++ (K3 ++ (oFi b2 (fdN []) none 0 :: M)))) (fun w hw => hw.perm (permC (fun f => by simp only [wt_append,wt_cons,wt_nil] <;> omega) : List.Perm (oRr rb s p3 ft3 nv3 :: (RN3 ++ (K3 ++ (oFi b4 (.mk l false tk wd id ix lst) la lc :: oFi b2 (fdN []) none 0 :: M)))) (oFi b4 (.mk l false tk wd id ix lst) la lc :: oRr rb s p3 ft3 nv3 :: (RN3 ++ (K3 ++ (oFi b2 (fdN []) none 0 :: M)))))) (storeX 0 rfl Siz.eq rfl rfl (by simp [Value.oneCell']) (by simp) ?_)
      simp (disch:=omega) only[push_cast,Nat.reduceEqDiff]
      refine loadX_agg Shp.eq (.head _) rfl rfl ?_
      simp (disch:=omega) only[push_cast,Nat.reduceEqDiff]
      refine storeX_weak (L' := oFi b2 (fdN []) none 0 :: oFi b4 (.mk l false tk wd id ix lst) la lc :: oRr rb s p3 ft3 nv3 :: (RN3 ++ (K3 ++ M))) (fun w hw => hw.perm (permC (fun f => by simp only [wt_append,wt_cons,wt_nil] <;> omega) : List.Perm (oFi b4 (.mk l false tk wd id ix lst) la lc :: oRr rb s p3 ft3 nv3 :: (RN3 ++ (K3 ++ (oFi b2 (fdN []) none 0 :: M)))) (oFi b2 (fdN []) none 0 :: oFi b4 (.mk l false tk wd id ix lst) la lc :: oRr rb s p3 ft3 nv3 :: (RN3 ++ (K3 ++ M))))) (storeX 0 rfl Siz.eq rfl rfl (by simp [Value.oneCell']) (by simp) ?_)
      simp (disch:=omega) only[push_cast,Nat.reduceEqDiff]
      refine loadX_agg Shp.eq mem0 rfl rfl ?_
      simp (disch:=omega) only[push_cast,Nat.reduceEqDiff]
      refine fun w' hw' => ⟨_,oRr rb s p3 ft3 nv3 :: (RN3 ++ (K3 ++ M)),rfl,Sy.left (A := [oFi b2 (.mk l false tk wd id ix lst) la lc,oFi b4 (.mk l false tk wd id ix lst) la lc]) hw' (fun b hb => ?_),(.mk l false tk wd id ix lst),la,lc,K3,p3,ft3,N3,nv3,RN3,rfl,OwS.toF (f := .mk l _ tk wd id ix lst) hO3 hl63,hN3,by first | omega | (simp only [List.length_append,List.length_cons,List.length_nil]; omega),hK3,hst,by first | rfl | (rw [List.nil_append]; done) | (rw [List.nil_append,Int.natCast_add]; rfl) | (rw [Int.natCast_add]; rfl)⟩
      simp only [List.mem_cons,List.mem_nil_iff,or_false] at hb
      rcases hb with rfl | rfl
      · exact hb2
      · exact hb4
theorem fieldRR_all : ∀ d,FieldRR d
  | 0 => fun wb w rb s p ft N nv RN M hQ h => by omega
  | d + 1 => fieldR_step d (fieldRR_all d)
theorem manyRR_all (d : Nat) : ManyRR d := manyR_step d (fieldRR_all d)
end Go.Proofs.YtdmdgkpjjpijdaaGreatDoor
