/- YtdmdgkpjjpijdaaGreatDoor: walks, part 190: the reference's reader: what stands in the brackets of a type. -/
import Derived.Test.YtdmdgkpjjpijdaaGreatDoorW189
namespace Go.Proofs.YtdmdgkpjjpijdaaGreatDoor
open Go Go.K
set_option maxRecDepth 100000
set_option linter.unusedVariables false
set_option linter.unusedSimpArgs false
set_option maxHeartbeats 16000000
abbrev oTz (b : Nat) (k wd id ix : Int) (v : Value) : Nat × Obj := (b,Obj.cells #[i64 k,i64 wd,i64 id,i64 ix,v] 35 (0,0))
def TypeV0 (wb : World) (rb : Nat) (s : List UInt8) (p : Nat) (ft : Int) (N : List Nat) (M : Own) (r : PR Ty) (x : Value) (L' : Own) : Prop :=
  ∃ (k wd id ix : Int) (l : List Fld) (a : Option Addr) (c : Nat) (K : Own) (p' : Nat) (ft' : Int) (N' : List Nat) (nv' : Value) (RN' : Own),x = .agg #[i64 k,i64 wd,i64 id,i64 ix,.slice a l.length c] ∧ OwS l K a c ∧ RowO wb 3 1 RN' [] nv' N'.length (ints N') ∧ N'.length ≤ p' ∧ (∀ b ∈ K,wb.heap.size ≤ b.1) ∧ StepR s ft p r (fun y => k = y.k ∧ wd = y.wd ∧ id = y.id ∧ ix = y.ix ∧ l = y.l.map (·.1) ∧ N' = N ++ preL (y.l.map (·.2))) p' ft' ∧ L' = oRr rb s p' ft' nv' :: (RN' ++ (K ++ M))
def pBrack (s : List UInt8) (F : Nat → PR Fz) (k : Nat) (q : Nat) : PR Ty := (pMust s 40 q).and fun _ r => (pInner s F k r).and fun t r => (pMust s 41 r).and fun _ r => .ok t r
def InnerRR (d k : Nat) (ki : Int) : Prop := ∀ (wb w : World) (rb : Nat) (s : List UInt8) (p : Nat) (N : List Nat) (nv : Value) (RN M : Own),RfQ wb w rb s p (-1) N nv RN M → s.length - blP s p < d →
  Calls Tryz.prog 82 #[.pointer (some ⟨rb,0,none⟩),i64 ki] w (fun e w' => ∃ x L',e = .returned x ∧ Sy wb L' w' ∧ TypeV0 wb rb s p (-1) N M (pBrack s (pField s d) k (blP s p)) x L')
theorem pI14 (s : List UInt8) (F : Nat → PR Fz) (q : Nat) : pInner s F 14 q = (pNum s q).and fun n r => .ok ⟨14,n,0,0,[]⟩ r := by unfold pInner; rw [if_pos rfl]
theorem pI16 (s : List UInt8) (F : Nat → PR Fz) (q : Nat) : pInner s F 16 q = (pNum s q).and fun n r => (pMust s 44 r).and fun _ r => (F r).and fun x r => .ok ⟨16,n,0,0,[x]⟩ r := by
  unfold pInner
  rw [if_neg (by decide),if_pos rfl]
  simp only [one,PR.and_and,PR.and_ok]
theorem pI19 (s : List UInt8) (F : Nat → PR Fz) (q : Nat) : pInner s F 19 q = (pNum s q).and fun n r => (pMust s 44 r).and fun _ r => (pKind s saysIdx r).and fun i r => (pMust s 44 r).and fun _ r => (F r).and fun x r => .ok ⟨19,0,n,i,[x]⟩ r := by
  unfold pInner
  rw [if_neg (by decide),if_neg (by decide),if_pos rfl]
  simp only [one,PR.and_and,PR.and_ok]
theorem pI15 (s : List UInt8) (F : Nat → PR Fz) (q : Nat) : pInner s F 15 q = (F q).and fun x r => .ok ⟨15,0,0,0,[x]⟩ r := by
  unfold pInner
  rw [if_neg (by decide),if_neg (by decide),if_neg (by decide),if_neg (by decide),if_neg (by decide)]
  simp only [one,PR.and_and,PR.and_ok]
theorem pI20 (s : List UInt8) (F : Nat → PR Fz) (q : Nat) : pInner s F 20 q = (F q).and fun x r => .ok ⟨20,0,0,0,[x]⟩ r := by
  unfold pInner
  rw [if_neg (by decide),if_neg (by decide),if_neg (by decide),if_neg (by decide),if_neg (by decide)]
  simp only [one,PR.and_and,PR.and_ok]
theorem pI18 (s : List UInt8) (F : Nat → PR Fz) (q : Nat) : pInner s F 18 q = (manyP s F false q).and fun l r => .ok ⟨18,0,0,0,l⟩ r := by
  unfold pInner manyP
  rw [if_neg (by decide),if_neg (by decide),if_neg (by decide),if_pos rfl,if_neg (by simp)]
theorem pI17 (s : List UInt8) (F : Nat → PR Fz) (q : Nat) : pInner s F 17 q = (manyP s F true q).and fun l r => .ok ⟨17,0,0,0,l⟩ r := by
  unfold pInner manyP
  rw [if_neg (by decide),if_neg (by decide),if_neg (by decide),if_neg (by decide),if_pos rfl]
  by_cases h : s[q]? = some 41
  · rw [if_pos h,if_pos ⟨rfl,h⟩,PR.and_ok]
  · rw [if_neg h,if_neg (fun h2 => h h2.2)]
theorem inner14 (d : Nat) (hF : FieldRR d) (hM2 : ManyRR d) : InnerRR d 14 14 := by
  intro wb w rb s p N nv RN M hQ hd
  have hs := hQ.hs
  have hp := hQ.hp
  refine enterB (args := [.pointer (some ⟨rb,0,none⟩),i64 14]) Tryz.func82 rfl Tryz.ntmps82 (congrArg Array.toList Tryz.results82) (by kernel_rfl) (by simp) hQ.hw ?_
  simp (disch:=omega) only[push_cast,Nat.reduceEqDiff]
  refine newI (fun b4 hb4 hn4 => ?_)
  simp (disch:=omega) only[push_cast,Nat.reduceEqDiff]
  refine newI (fun b5 hb5 hn5 => ?_)
  simp (disch:=omega) only[push_cast,Nat.reduceEqDiff]
  refine storeX 0 rfl Siz.eq rfl rfl (by simp [Value.oneCell']) (by simp) ?_
  simp (disch:=omega) only[push_cast,Nat.reduceEqDiff]
  refine callV en_114 (callX_weak (L' := oRr rb s p (-1) nv :: (RN ++ (oTz b5 14 0 0 0 (.slice none 0 0) :: oTz b4 0 0 0 0 (.slice none 0 0) :: M))) (fun w hw => hw.perm (permC (fun f => by simp only [wt_append,wt_cons,wt_nil] <;> omega) : List.Perm (oTz b5 14 0 0 0 (.slice none 0 0) :: oTz b4 0 0 0 0 (.slice none 0 0) :: oRr rb s p (-1) nv :: (RN ++ M)) (oRr rb s p (-1) nv :: (RN ++ (oTz b5 14 0 0 0 (.slice none 0 0) :: oTz b4 0 0 0 0 (.slice none 0 0) :: M))))) (callX_own (S := fun v L' => v = .tuple #[] ∧ ∃ (p' : Nat) (ft' : Int),StepR s (-1) p (pMust s 40 (blP s p)) (fun _ => True) p' ft' ∧ L' = oRr rb s p' ft' nv :: (RN ++ (oTz b5 14 0 0 0 (.slice none 0 0) :: oTz b4 0 0 0 0 (.slice none 0 0) :: M))) (fun w' hw' => mustR_walk wb w' rb s p (-1) nv _ 40 (by decide) hs hp (.inl rfl) hQ.hrb hw') (fun v9 L9 hv9 => ?_)))
  have ev9 := hv9.1
  subst ev9
  (refine Exists.elim (hv9.2) (fun p1 hz => Exists.elim hz (fun ft1 hz => ?_)); have hm1 := hz.1; have ez := hz.2; subst ez; clear hz)
  have q1 := hm1.1
  simp (disch:=omega) only[push_cast,Nat.reduceEqDiff,decide_true,decide_false,Int.reduceEq]
  repeat (first | (rw [V_cond]; (try simp (disch:=omega) only[push_cast,Nat.reduceEqDiff,decide_true,decide_false,Int.reduceEq])) | (rw [V_block]; (try simp (disch:=omega) only[push_cast,Nat.reduceEqDiff,decide_true,decide_false,Int.reduceEq])))
  refine callV en_115 (callX_own (S := fun v L' => ∃ (n : Nat) (p' : Nat) (ft' : Int),v = i64 n ∧ StepR s ft1 p1 (pNum s (blP s p1)) (fun y => n = y) p' ft' ∧ L' = oRr rb s p' ft' nv :: (RN ++ (oTz b5 14 0 0 0 (.slice none 0 0) :: oTz b4 0 0 0 0 (.slice none 0 0) :: M))) (fun w' hw' => numberR_walk wb w' rb s p1 ft1 nv _ hs hm1.2.1 hm1.two hQ.hrb hw') (fun v9 L9 hv9 => ?_))
  (refine Exists.elim (hv9) (fun n2 hz => Exists.elim hz (fun p2 hz => Exists.elim hz (fun ft2 hz => ?_))); have ez := hz.1; subst ez; have hm2 := hz.2.1; have ez := hz.2.2; subst ez; clear hz)
  have q2 := hm2.1
  simp (disch:=omega) only[push_cast,Nat.reduceEqDiff,decide_true,decide_false,Int.reduceEq]
  refine storeX_weak (L' := oTz b5 14 0 0 0 (.slice none 0 0) :: oRr rb s p2 ft2 nv :: (RN ++ (oTz b4 0 0 0 0 (.slice none 0 0) :: M))) (fun w hw => hw.perm (permC (fun f => by simp only [wt_append,wt_cons,wt_nil] <;> omega) : List.Perm (oRr rb s p2 ft2 nv :: (RN ++ (oTz b5 14 0 0 0 (.slice none 0 0) :: oTz b4 0 0 0 0 (.slice none 0 0) :: M))) (oTz b5 14 0 0 0 (.slice none 0 0) :: oRr rb s p2 ft2 nv :: (RN ++ (oTz b4 0 0 0 0 (.slice none 0 0) :: M))))) (storeX 0 rfl Siz.eq rfl rfl (by simp [Value.oneCell']) (by simp) ?_)
  simp (disch:=omega) only[push_cast,Nat.reduceEqDiff,decide_true,decide_false,Int.reduceEq]
  repeat (first | (rw [V_cond]; (try simp (disch:=omega) only[push_cast,Nat.reduceEqDiff,decide_true,decide_false,Int.reduceEq])) | (rw [V_block]; (try simp (disch:=omega) only[push_cast,Nat.reduceEqDiff,decide_true,decide_false,Int.reduceEq])))
  refine callV en_114 (callX_weak (L' := oRr rb s p2 ft2 nv :: (RN ++ (oTz b5 14 n2 0 0 (.slice none 0 0) :: oTz b4 0 0 0 0 (.slice none 0 0) :: M))) (fun w hw => hw.perm (permC (fun f => by simp only [wt_append,wt_cons,wt_nil] <;> omega) : List.Perm (oTz b5 14 n2 0 0 (.slice none 0 0) :: oRr rb s p2 ft2 nv :: (RN ++ (oTz b4 0 0 0 0 (.slice none 0 0) :: M))) (oRr rb s p2 ft2 nv :: (RN ++ (oTz b5 14 n2 0 0 (.slice none 0 0) :: oTz b4 0 0 0 0 (.slice none 0 0) :: M))))) (callX_own (S := fun v L' => v = .tuple #[] ∧ ∃ (p' : Nat) (ft' : Int),StepR s ft2 p2 (pMust s 41 (blP s p2)) (fun _ => True) p' ft' ∧ L' = oRr rb s p' ft' nv :: (RN ++ (oTz b5 14 n2 0 0 (.slice none 0 0) :: oTz b4 0 0 0 0 (.slice none 0 0) :: M))) (fun w' hw' => mustR_walk wb w' rb s p2 ft2 nv _ 41 (by decide) hs hm2.2.1 hm2.two hQ.hrb hw') (fun v9 L9 hv9 => ?_)))
  have ev9 := hv9.1
  subst ev9
  (refine Exists.elim (hv9.2) (fun p3 hz => Exists.elim hz (fun ft3 hz => ?_)); have hm3 := hz.1; have ez := hz.2; subst ez; clear hz)
  have q3 := hm3.1
  simp (disch:=omega) only[push_cast,Nat.reduceEqDiff,decide_true,decide_false,Int.reduceEq]
  refine loadX_agg Shp.eq (List.mem_cons_of_mem _ (List.mem_append_right _ (.head _))) rfl rfl ?_
  simp (disch:=omega) only[push_cast,Nat.reduceEqDiff,decide_true,decide_false,Int.reduceEq]
  refine storeX_weak (L' := oTz b5 14 n2 0 0 (.slice none 0 0) :: oTz b4 0 0 0 0 (.slice none 0 0) :: oRr rb s p3 ft3 nv :: (RN ++ (M))) (fun w hw => hw.perm (permC (fun f => by simp only [wt_append,wt_cons,wt_nil] <;> omega) : List.Perm (oRr rb s p3 ft3 nv :: (RN ++ (oTz b5 14 n2 0 0 (.slice none 0 0) :: oTz b4 0 0 0 0 (.slice none 0 0) :: M))) (oTz b5 14 n2 0 0 (.slice none 0 0) :: oTz b4 0 0 0 0 (.slice none 0 0) :: oRr rb s p3 ft3 nv :: (RN ++ (M))))) (storeX 1 rfl Siz.eq rfl rfl (by simp [Value.oneCell']) (by simp) ?_)
  simp (disch:=omega) only[push_cast,Nat.reduceEqDiff,decide_true,decide_false,Int.reduceEq]
  refine loadX_agg Shp.eq mem1 rfl rfl ?_
  simp (disch:=omega) only[push_cast,Nat.reduceEqDiff,decide_true,decide_false,Int.reduceEq]
  have hP3 : p3 ≤ s.length := hm3.2.1
  have hNQ := hQ.hNp
  have bd3 : 0 ≤ ft3 → p3 ≤ p3 ∧ p3 ≤ s.length ∧ ft3 = ft3 := fun _ => ⟨Nat.le_refl _,hP3,rfl⟩
  have bd2 : 0 ≤ ft2 → p2 ≤ p3 ∧ p3 ≤ s.length ∧ ft3 = ft2 := fun h => by
    have b := hm3.bad h
    have c := bd3 (by omega)
    refine ⟨?_,?_,?_⟩ <;> omega
  have bd1 : 0 ≤ ft1 → p1 ≤ p3 ∧ p3 ≤ s.length ∧ ft3 = ft1 := fun h => by
    have b := hm2.bad h
    have c := bd2 (by omega)
    refine ⟨?_,?_,?_⟩ <;> omega
  have hst : StepR s (-1) p (pBrack s (pField s d) 14 (blP s p)) (fun y => (14 : Int) = y.k ∧ (n2 : Int) = y.wd ∧ (0 : Int) = y.id ∧ (0 : Int) = y.ix ∧ [] = y.l.map (·.1) ∧ N = N ++ preL (y.l.map (·.2))) p3 ft3 := by
    rw [show pBrack s (pField s d) 14 (blP s p) = (pMust s 40 (blP s p)).and fun _ r => (pNum s r).and fun n r => (pMust s 41 r).and fun _ r => .ok ⟨14,n,0,0,[]⟩ r from by unfold pBrack; simp only [pI14,PR.and_and,PR.and_ok]]
    refine hm1.bind (fun x1 _ g1 o1 _ => ?_) bd1
    subst g1
    refine hm2.bind (fun x2 _ g2 o2 _ => ?_) bd2
    subst g2
    refine hm3.bind (fun x3 _ g3 o3 _ => ?_) bd3
    subst g3
    exact StepR.pure hP3 ⟨rfl,by rw [o2],rfl,rfl,rfl,by simp [preL]⟩
  refine fun w' hw' => ⟨_,oRr rb s p3 ft3 nv :: (RN ++ M),rfl,Sy.left (A := [oTz b5 14 n2 0 0 (.slice none 0 0),oTz b4 14 n2 0 0 (.slice none 0 0)]) hw' (fun b hb => ?_),14,n2,0,0,[],none,0,[],p3,ft3,N,nv,RN,rfl,(OwS_iff _ _ _ _).2 (.inl ⟨rfl,rfl,rfl,rfl⟩),hQ.hN,by omega,fun b hb => (by cases hb),hst,by rw [List.nil_append]⟩
  simp only [List.mem_cons,List.mem_nil_iff,or_false] at hb
  rcases hb with rfl | rfl
  · exact hb5
  · exact hb4
theorem inner15 (d : Nat) (hF : FieldRR d) (hM2 : ManyRR d) : InnerRR d 15 15 := by
  intro wb w rb s p N nv RN M hQ hd
  have hs := hQ.hs
  have hp := hQ.hp
  refine enterB (args := [.pointer (some ⟨rb,0,none⟩),i64 15]) Tryz.func82 rfl Tryz.ntmps82 (congrArg Array.toList Tryz.results82) (by kernel_rfl) (by simp) hQ.hw ?_
  simp (disch:=omega) only[push_cast,Nat.reduceEqDiff]
  refine newI (fun b4 hb4 hn4 => ?_)
  simp (disch:=omega) only[push_cast,Nat.reduceEqDiff]
  refine newI (fun b5 hb5 hn5 => ?_)
  simp (disch:=omega) only[push_cast,Nat.reduceEqDiff]
  refine storeX 0 rfl Siz.eq rfl rfl (by simp [Value.oneCell']) (by simp) ?_
  simp (disch:=omega) only[push_cast,Nat.reduceEqDiff]
  refine callV en_114 (callX_weak (L' := oRr rb s p (-1) nv :: (RN ++ (oTz b5 15 0 0 0 (.slice none 0 0) :: oTz b4 0 0 0 0 (.slice none 0 0) :: M))) (fun w hw => hw.perm (permC (fun f => by simp only [wt_append,wt_cons,wt_nil] <;> omega) : List.Perm (oTz b5 15 0 0 0 (.slice none 0 0) :: oTz b4 0 0 0 0 (.slice none 0 0) :: oRr rb s p (-1) nv :: (RN ++ M)) (oRr rb s p (-1) nv :: (RN ++ (oTz b5 15 0 0 0 (.slice none 0 0) :: oTz b4 0 0 0 0 (.slice none 0 0) :: M))))) (callX_own (S := fun v L' => v = .tuple #[] ∧ ∃ (p' : Nat) (ft' : Int),StepR s (-1) p (pMust s 40 (blP s p)) (fun _ => True) p' ft' ∧ L' = oRr rb s p' ft' nv :: (RN ++ (oTz b5 15 0 0 0 (.slice none 0 0) :: oTz b4 0 0 0 0 (.slice none 0 0) :: M))) (fun w' hw' => mustR_walk wb w' rb s p (-1) nv _ 40 (by decide) hs hp (.inl rfl) hQ.hrb hw') (fun v9 L9 hv9 => ?_)))
  have ev9 := hv9.1
  subst ev9
  (refine Exists.elim (hv9.2) (fun p1 hz => Exists.elim hz (fun ft1 hz => ?_)); have hm1 := hz.1; have ez := hz.2; subst ez; clear hz)
  have q1 := hm1.1
  simp (disch:=omega) only[push_cast,Nat.reduceEqDiff,decide_true,decide_false,Int.reduceEq]
  repeat (first | (rw [V_cond]; (try simp (disch:=omega) only[push_cast,Nat.reduceEqDiff,decide_true,decide_false,Int.reduceEq])) | (rw [V_block]; (try simp (disch:=omega) only[push_cast,Nat.reduceEqDiff,decide_true,decide_false,Int.reduceEq])))
  have hMt : ∀ b ∈ oTz b5 15 0 0 0 (.slice none 0 0) :: oTz b4 0 0 0 0 (.slice none 0 0) :: M,wb.heap.size ≤ b.1 := fun b hb => by
    simp only [List.mem_cons] at hb
    rcases hb with rfl | rfl | hb
    · exact hb5
    · exact hb4
    · exact hQ.hM b hb
  have hme : s.length - blP s p1 < d := by
    have := blP_mono (s := s) (show p ≤ p1 by omega)
    omega
  have hNp9 := hQ.hNp
  refine callV en_50 (callX_weak (L' := oRr rb s p1 ft1 nv :: (RN ++ (oTz b5 15 0 0 0 (.slice none 0 0) :: oTz b4 0 0 0 0 (.slice none 0 0) :: M))) (fun w hw => hw.perm (permC (fun f => by simp only [wt_append,wt_cons,wt_nil] <;> omega) : List.Perm (oRr rb s p1 ft1 nv :: (RN ++ (oTz b5 15 0 0 0 (.slice none 0 0) :: oTz b4 0 0 0 0 (.slice none 0 0) :: M))) (oRr rb s p1 ft1 nv :: (RN ++ (oTz b5 15 0 0 0 (.slice none 0 0) :: oTz b4 0 0 0 0 (.slice none 0 0) :: M))))) (callX_own (S := FieldV0 wb rb s p1 ft1 N (oTz b5 15 0 0 0 (.slice none 0 0) :: oTz b4 0 0 0 0 (.slice none 0 0) :: M) (pField s d (blP s p1))) (fun w' hw' => hF wb w' rb s p1 ft1 N nv RN _ ⟨hs,hm1.2.1,hm1.two,hQ.hrb,hMt,hQ.hN,by omega,hw'⟩ hme) (fun v9 L9 hv9 => ?_)))
  (refine Exists.elim (hv9) (fun f hz => Exists.elim hz (fun fa hz => Exists.elim hz (fun fc hz => Exists.elim hz (fun Kf hz => Exists.elim hz (fun p2 hz => Exists.elim hz (fun ft2 hz => Exists.elim hz (fun N2 hz => Exists.elim hz (fun nv2 hz => Exists.elim hz (fun RN2 hz => ?_))))))))); have ez := hz.1; subst ez; have hO := hz.2.1; have hN2 := hz.2.2.1; have hNp2 := hz.2.2.2.1; have hKf := hz.2.2.2.2.1; have hm2 := hz.2.2.2.2.2.1; have ez := hz.2.2.2.2.2.2; subst ez; clear hz)
  have q2 := hm2.1
  simp (disch:=omega) only[push_cast,Nat.reduceEqDiff,decide_true,decide_false,Int.reduceEq,Fld.cells]
  refine bs_24_1 (newI fun b8 hb8 hn8 => ?_)
  simp (disch:=omega) only[push_cast,Nat.reduceEqDiff,decide_true,decide_false,Int.reduceEq]
  refine storeX_weak (L' := oTz b5 15 0 0 0 (.slice none 0 0) :: oRr rb s p2 ft2 nv2 :: (RN2 ++ (oFi b8 f fa fc :: (Kf ++ (oTz b4 0 0 0 0 (.slice none 0 0) :: M))))) (fun w hw => hw.perm (permC (fun f => by simp only [wt_append,wt_cons,wt_nil] <;> omega) : List.Perm (oFi b8 f fa fc :: oRr rb s p2 ft2 nv2 :: (RN2 ++ (Kf ++ (oTz b5 15 0 0 0 (.slice none 0 0) :: oTz b4 0 0 0 0 (.slice none 0 0) :: M)))) (oTz b5 15 0 0 0 (.slice none 0 0) :: oRr rb s p2 ft2 nv2 :: (RN2 ++ (oFi b8 f fa fc :: (Kf ++ (oTz b4 0 0 0 0 (.slice none 0 0) :: M))))))) (storeX 0 rfl Siz.eq rfl rfl (by simp [Value.oneCell']) (by simp) ?_)
  simp (disch:=omega) only[push_cast,Nat.reduceEqDiff,decide_true,decide_false,Int.reduceEq]
  repeat (first | (rw [V_cond]; (try simp (disch:=omega) only[push_cast,Nat.reduceEqDiff,decide_true,decide_false,Int.reduceEq])) | (rw [V_block]; (try simp (disch:=omega) only[push_cast,Nat.reduceEqDiff,decide_true,decide_false,Int.reduceEq])))
  refine callV en_114 (callX_weak (L' := oRr rb s p2 ft2 nv2 :: (RN2 ++ (oFi b8 f fa fc :: (Kf ++ (oTz b5 15 0 0 0 (.slice (some ⟨b8,0,none⟩) 1 1) :: oTz b4 0 0 0 0 (.slice none 0 0) :: M))))) (fun w hw => hw.perm (permC (fun f => by simp only [wt_append,wt_cons,wt_nil] <;> omega) : List.Perm (oTz b5 15 0 0 0 (.slice (some ⟨b8,0,none⟩) 1 1) :: oRr rb s p2 ft2 nv2 :: (RN2 ++ (oFi b8 f fa fc :: (Kf ++ (oTz b4 0 0 0 0 (.slice none 0 0) :: M))))) (oRr rb s p2 ft2 nv2 :: (RN2 ++ (oFi b8 f fa fc :: (Kf ++ (oTz b5 15 0 0 0 (.slice (some ⟨b8,0,none⟩) 1 1) :: oTz b4 0 0 0 0 (.slice none 0 0) :: M))))))) (callX_own (S := fun v L' => v = .tuple #[] ∧ ∃ (p' : Nat) (ft' : Int),StepR s ft2 p2 (pMust s 41 (blP s p2)) (fun _ => True) p' ft' ∧ L' = oRr rb s p' ft' nv2 :: (RN2 ++ (oFi b8 f fa fc :: (Kf ++ (oTz b5 15 0 0 0 (.slice (some ⟨b8,0,none⟩) 1 1) :: oTz b4 0 0 0 0 (.slice none 0 0) :: M))))) (fun w' hw' => mustR_walk wb w' rb s p2 ft2 nv2 _ 41 (by decide) hs hm2.2.1 hm2.two hQ.hrb hw') (fun v9 L9 hv9 => ?_)))
  have ev9 := hv9.1
  subst ev9
  (refine Exists.elim (hv9.2) (fun p3 hz => Exists.elim hz (fun ft3 hz => ?_)); have hm3 := hz.1; have ez := hz.2; subst ez; clear hz)
  have q3 := hm3.1
  simp (disch:=omega) only[push_cast,Nat.reduceEqDiff,decide_true,decide_false,Int.reduceEq]
  refine loadX_agg Shp.eq (List.mem_cons_of_mem _ (List.mem_append_right _ (.tail _ (List.mem_append_right _ (.head _))))) rfl rfl ?_
  simp (disch:=omega) only[push_cast,Nat.reduceEqDiff,decide_true,decide_false,Int.reduceEq]
  refine storeX_weak (L' := oTz b5 15 0 0 0 (.slice (some ⟨b8,0,none⟩) 1 1) :: oTz b4 0 0 0 0 (.slice none 0 0) :: oRr rb s p3 ft3 nv2 :: (RN2 ++ (oFi b8 f fa fc :: (Kf ++ (M))))) (fun w hw => hw.perm (permC (fun f => by simp only [wt_append,wt_cons,wt_nil] <;> omega) : List.Perm (oRr rb s p3 ft3 nv2 :: (RN2 ++ (oFi b8 f fa fc :: (Kf ++ (oTz b5 15 0 0 0 (.slice (some ⟨b8,0,none⟩) 1 1) :: oTz b4 0 0 0 0 (.slice none 0 0) :: M))))) (oTz b5 15 0 0 0 (.slice (some ⟨b8,0,none⟩) 1 1) :: oTz b4 0 0 0 0 (.slice none 0 0) :: oRr rb s p3 ft3 nv2 :: (RN2 ++ (oFi b8 f fa fc :: (Kf ++ (M))))))) (storeX 1 rfl Siz.eq rfl rfl (by simp [Value.oneCell']) (by simp) ?_)
  simp (disch:=omega) only[push_cast,Nat.reduceEqDiff,decide_true,decide_false,Int.reduceEq]
  refine loadX_agg Shp.eq mem1 rfl rfl ?_
  simp (disch:=omega) only[push_cast,Nat.reduceEqDiff,decide_true,decide_false,Int.reduceEq]
  have hP3 : p3 ≤ s.length := hm3.2.1
  have hNQ := hQ.hNp
  have bd3 : 0 ≤ ft3 → p3 ≤ p3 ∧ p3 ≤ s.length ∧ ft3 = ft3 := fun _ => ⟨Nat.le_refl _,hP3,rfl⟩
  have bd2 : 0 ≤ ft2 → p2 ≤ p3 ∧ p3 ≤ s.length ∧ ft3 = ft2 := fun h => by
    have b := hm3.bad h
    have c := bd3 (by omega)
    refine ⟨?_,?_,?_⟩ <;> omega
  have bd1 : 0 ≤ ft1 → p1 ≤ p3 ∧ p3 ≤ s.length ∧ ft3 = ft1 := fun h => by
    have b := hm2.bad h
    have c := bd2 (by omega)
    refine ⟨?_,?_,?_⟩ <;> omega
  have hst : StepR s (-1) p (pBrack s (pField s d) 15 (blP s p)) (fun y => (15 : Int) = y.k ∧ (0 : Int) = y.wd ∧ (0 : Int) = y.id ∧ (0 : Int) = y.ix ∧ [f] = y.l.map (·.1) ∧ N2 = N ++ preL (y.l.map (·.2))) p3 ft3 := by
    rw [show pBrack s (pField s d) 15 (blP s p) = (pMust s 40 (blP s p)).and fun _ r => (pField s d r).and fun x r => (pMust s 41 r).and fun _ r => .ok ⟨15,0,0,0,[x]⟩ r from by unfold pBrack; simp only [pI15,PR.and_and,PR.and_ok]]
    refine hm1.bind (fun x1 _ g1 o1 _ => ?_) bd1
    subst g1
    refine hm2.bind (fun x2 _ g2 o2 _ => ?_) bd2
    subst g2
    refine hm3.bind (fun x3 _ g3 o3 _ => ?_) bd3
    subst g3
    exact StepR.pure hP3 ⟨rfl,rfl,rfl,rfl,by rw [o2.1]; rfl,by rw [o2.2,List.map_cons,List.map_nil,preL_single]⟩
  refine fun w' hw' => ⟨_,oRr rb s p3 ft3 nv2 :: (RN2 ++ ((oFi b8 f fa fc :: Kf) ++ M)),rfl,Sy.left (A := [oTz b5 15 0 0 0 (.slice (some ⟨b8,0,none⟩) 1 1),oTz b4 15 0 0 0 (.slice (some ⟨b8,0,none⟩) 1 1)]) hw' (fun b hb => ?_),15,0,0,0,[f],(some ⟨b8,0,none⟩),1,(oFi b8 f fa fc :: Kf),p3,ft3,N2,nv2,RN2,rfl,(OwS_iff _ _ _ _).2 (.inr ⟨b8,1,f.cells fa fc,f.cells fa fc,Kf,rfl,rfl,Nat.le_refl _,Nat.le_refl _,.inl rfl,by omega,rfl,rfl,OwK.single hO⟩),hN2,by omega,fun b hb => (List.mem_cons.1 hb).elim (fun h => by rw [h]; exact hb8) (hKf b),hst,rfl⟩
  simp only [List.mem_cons,List.mem_nil_iff,or_false] at hb
  rcases hb with rfl | rfl
  · exact hb5
  · exact hb4
theorem inner20 (d : Nat) (hF : FieldRR d) (hM2 : ManyRR d) : InnerRR d 20 20 := by
  intro wb w rb s p N nv RN M hQ hd
  have hs := hQ.hs
  have hp := hQ.hp
  refine enterB (args := [.pointer (some ⟨rb,0,none⟩),i64 20]) Tryz.func82 rfl Tryz.ntmps82 (congrArg Array.toList Tryz.results82) (by kernel_rfl) (by simp) hQ.hw ?_
  simp (disch:=omega) only[push_cast,Nat.reduceEqDiff]
  refine newI (fun b4 hb4 hn4 => ?_)
  simp (disch:=omega) only[push_cast,Nat.reduceEqDiff]
  refine newI (fun b5 hb5 hn5 => ?_)
  simp (disch:=omega) only[push_cast,Nat.reduceEqDiff]
  refine storeX 0 rfl Siz.eq rfl rfl (by simp [Value.oneCell']) (by simp) ?_
  simp (disch:=omega) only[push_cast,Nat.reduceEqDiff]
  refine callV en_114 (callX_weak (L' := oRr rb s p (-1) nv :: (RN ++ (oTz b5 20 0 0 0 (.slice none 0 0) :: oTz b4 0 0 0 0 (.slice none 0 0) :: M))) (fun w hw => hw.perm (permC (fun f => by simp only [wt_append,wt_cons,wt_nil] <;> omega) : List.Perm (oTz b5 20 0 0 0 (.slice none 0 0) :: oTz b4 0 0 0 0 (.slice none 0 0) :: oRr rb s p (-1) nv :: (RN ++ M)) (oRr rb s p (-1) nv :: (RN ++ (oTz b5 20 0 0 0 (.slice none 0 0) :: oTz b4 0 0 0 0 (.slice none 0 0) :: M))))) (callX_own (S := fun v L' => v = .tuple #[] ∧ ∃ (p' : Nat) (ft' : Int),StepR s (-1) p (pMust s 40 (blP s p)) (fun _ => True) p' ft' ∧ L' = oRr rb s p' ft' nv :: (RN ++ (oTz b5 20 0 0 0 (.slice none 0 0) :: oTz b4 0 0 0 0 (.slice none 0 0) :: M))) (fun w' hw' => mustR_walk wb w' rb s p (-1) nv _ 40 (by decide) hs hp (.inl rfl) hQ.hrb hw') (fun v9 L9 hv9 => ?_)))
  have ev9 := hv9.1
  subst ev9
  (refine Exists.elim (hv9.2) (fun p1 hz => Exists.elim hz (fun ft1 hz => ?_)); have hm1 := hz.1; have ez := hz.2; subst ez; clear hz)
  have q1 := hm1.1
  simp (disch:=omega) only[push_cast,Nat.reduceEqDiff,decide_true,decide_false,Int.reduceEq]
  repeat (first | (rw [V_cond]; (try simp (disch:=omega) only[push_cast,Nat.reduceEqDiff,decide_true,decide_false,Int.reduceEq])) | (rw [V_block]; (try simp (disch:=omega) only[push_cast,Nat.reduceEqDiff,decide_true,decide_false,Int.reduceEq])))
  have hMt : ∀ b ∈ oTz b5 20 0 0 0 (.slice none 0 0) :: oTz b4 0 0 0 0 (.slice none 0 0) :: M,wb.heap.size ≤ b.1 := fun b hb => by
    simp only [List.mem_cons] at hb
    rcases hb with rfl | rfl | hb
    · exact hb5
    · exact hb4
    · exact hQ.hM b hb
  have hme : s.length - blP s p1 < d := by
    have := blP_mono (s := s) (show p ≤ p1 by omega)
    omega
  have hNp9 := hQ.hNp
  refine callV en_50 (callX_weak (L' := oRr rb s p1 ft1 nv :: (RN ++ (oTz b5 20 0 0 0 (.slice none 0 0) :: oTz b4 0 0 0 0 (.slice none 0 0) :: M))) (fun w hw => hw.perm (permC (fun f => by simp only [wt_append,wt_cons,wt_nil] <;> omega) : List.Perm (oRr rb s p1 ft1 nv :: (RN ++ (oTz b5 20 0 0 0 (.slice none 0 0) :: oTz b4 0 0 0 0 (.slice none 0 0) :: M))) (oRr rb s p1 ft1 nv :: (RN ++ (oTz b5 20 0 0 0 (.slice none 0 0) :: oTz b4 0 0 0 0 (.slice none 0 0) :: M))))) (callX_own (S := FieldV0 wb rb s p1 ft1 N (oTz b5 20 0 0 0 (.slice none 0 0) :: oTz b4 0 0 0 0 (.slice none 0 0) :: M) (pField s d (blP s p1))) (fun w' hw' => hF wb w' rb s p1 ft1 N nv RN _ ⟨hs,hm1.2.1,hm1.two,hQ.hrb,hMt,hQ.hN,by omega,hw'⟩ hme) (fun v9 L9 hv9 => ?_)))
  (refine Exists.elim (hv9) (fun f hz => Exists.elim hz (fun fa hz => Exists.elim hz (fun fc hz => Exists.elim hz (fun Kf hz => Exists.elim hz (fun p2 hz => Exists.elim hz (fun ft2 hz => Exists.elim hz (fun N2 hz => Exists.elim hz (fun nv2 hz => Exists.elim hz (fun RN2 hz => ?_))))))))); have ez := hz.1; subst ez; have hO := hz.2.1; have hN2 := hz.2.2.1; have hNp2 := hz.2.2.2.1; have hKf := hz.2.2.2.2.1; have hm2 := hz.2.2.2.2.2.1; have ez := hz.2.2.2.2.2.2; subst ez; clear hz)
  have q2 := hm2.1
  simp (disch:=omega) only[push_cast,Nat.reduceEqDiff,decide_true,decide_false,Int.reduceEq,Fld.cells]
  refine bs_24_1 (newI fun b8 hb8 hn8 => ?_)
  simp (disch:=omega) only[push_cast,Nat.reduceEqDiff,decide_true,decide_false,Int.reduceEq]
  refine storeX_weak (L' := oTz b5 20 0 0 0 (.slice none 0 0) :: oRr rb s p2 ft2 nv2 :: (RN2 ++ (oFi b8 f fa fc :: (Kf ++ (oTz b4 0 0 0 0 (.slice none 0 0) :: M))))) (fun w hw => hw.perm (permC (fun f => by simp only [wt_append,wt_cons,wt_nil] <;> omega) : List.Perm (oFi b8 f fa fc :: oRr rb s p2 ft2 nv2 :: (RN2 ++ (Kf ++ (oTz b5 20 0 0 0 (.slice none 0 0) :: oTz b4 0 0 0 0 (.slice none 0 0) :: M)))) (oTz b5 20 0 0 0 (.slice none 0 0) :: oRr rb s p2 ft2 nv2 :: (RN2 ++ (oFi b8 f fa fc :: (Kf ++ (oTz b4 0 0 0 0 (.slice none 0 0) :: M))))))) (storeX 0 rfl Siz.eq rfl rfl (by simp [Value.oneCell']) (by simp) ?_)
  simp (disch:=omega) only[push_cast,Nat.reduceEqDiff,decide_true,decide_false,Int.reduceEq]
  repeat (first | (rw [V_cond]; (try simp (disch:=omega) only[push_cast,Nat.reduceEqDiff,decide_true,decide_false,Int.reduceEq])) | (rw [V_block]; (try simp (disch:=omega) only[push_cast,Nat.reduceEqDiff,decide_true,decide_false,Int.reduceEq])))
  refine callV en_114 (callX_weak (L' := oRr rb s p2 ft2 nv2 :: (RN2 ++ (oFi b8 f fa fc :: (Kf ++ (oTz b5 20 0 0 0 (.slice (some ⟨b8,0,none⟩) 1 1) :: oTz b4 0 0 0 0 (.slice none 0 0) :: M))))) (fun w hw => hw.perm (permC (fun f => by simp only [wt_append,wt_cons,wt_nil] <;> omega) : List.Perm (oTz b5 20 0 0 0 (.slice (some ⟨b8,0,none⟩) 1 1) :: oRr rb s p2 ft2 nv2 :: (RN2 ++ (oFi b8 f fa fc :: (Kf ++ (oTz b4 0 0 0 0 (.slice none 0 0) :: M))))) (oRr rb s p2 ft2 nv2 :: (RN2 ++ (oFi b8 f fa fc :: (Kf ++ (oTz b5 20 0 0 0 (.slice (some ⟨b8,0,none⟩) 1 1) :: oTz b4 0 0 0 0 (.slice none 0 0) :: M))))))) (callX_own (S := fun v L' => v = .tuple #[] ∧ ∃ (p' : Nat) (ft' : Int),StepR s ft2 p2 (pMust s 41 (blP s p2)) (fun _ => True) p' ft' ∧ L' = oRr rb s p' ft' nv2 :: (RN2 ++ (oFi b8 f fa fc :: (Kf ++ (oTz b5 20 0 0 0 (.slice (some ⟨b8,0,none⟩) 1 1) :: oTz b4 0 0 0 0 (.slice none 0 0) :: M))))) (fun w' hw' => mustR_walk wb w' rb s p2 ft2 nv2 _ 41 (by decide) hs hm2.2.1 hm2.two hQ.hrb hw') (fun v9 L9 hv9 => ?_)))
  have ev9 := hv9.1
  subst ev9
  (refine Exists.elim (hv9.2) (fun p3 hz => Exists.elim hz (fun ft3 hz => ?_)); have hm3 := hz.1; have ez := hz.2; subst ez; clear hz)
  have q3 := hm3.1
  simp (disch:=omega) only[push_cast,Nat.reduceEqDiff,decide_true,decide_false,Int.reduceEq]
  refine loadX_agg Shp.eq (List.mem_cons_of_mem _ (List.mem_append_right _ (.tail _ (List.mem_append_right _ (.head _))))) rfl rfl ?_
  simp (disch:=omega) only[push_cast,Nat.reduceEqDiff,decide_true,decide_false,Int.reduceEq]
  refine storeX_weak (L' := oTz b5 20 0 0 0 (.slice (some ⟨b8,0,none⟩) 1 1) :: oTz b4 0 0 0 0 (.slice none 0 0) :: oRr rb s p3 ft3 nv2 :: (RN2 ++ (oFi b8 f fa fc :: (Kf ++ (M))))) (fun w hw => hw.perm (permC (fun f => by simp only [wt_append,wt_cons,wt_nil] <;> omega) : List.Perm (oRr rb s p3 ft3 nv2 :: (RN2 ++ (oFi b8 f fa fc :: (Kf ++ (oTz b5 20 0 0 0 (.slice (some ⟨b8,0,none⟩) 1 1) :: oTz b4 0 0 0 0 (.slice none 0 0) :: M))))) (oTz b5 20 0 0 0 (.slice (some ⟨b8,0,none⟩) 1 1) :: oTz b4 0 0 0 0 (.slice none 0 0) :: oRr rb s p3 ft3 nv2 :: (RN2 ++ (oFi b8 f fa fc :: (Kf ++ (M))))))) (storeX 1 rfl Siz.eq rfl rfl (by simp [Value.oneCell']) (by simp) ?_)
  simp (disch:=omega) only[push_cast,Nat.reduceEqDiff,decide_true,decide_false,Int.reduceEq]
  refine loadX_agg Shp.eq mem1 rfl rfl ?_
  simp (disch:=omega) only[push_cast,Nat.reduceEqDiff,decide_true,decide_false,Int.reduceEq]
  have hP3 : p3 ≤ s.length := hm3.2.1
  have hNQ := hQ.hNp
  have bd3 : 0 ≤ ft3 → p3 ≤ p3 ∧ p3 ≤ s.length ∧ ft3 = ft3 := fun _ => ⟨Nat.le_refl _,hP3,rfl⟩
  have bd2 : 0 ≤ ft2 → p2 ≤ p3 ∧ p3 ≤ s.length ∧ ft3 = ft2 := fun h => by
    have b := hm3.bad h
    have c := bd3 (by omega)
    refine ⟨?_,?_,?_⟩ <;> omega
  have bd1 : 0 ≤ ft1 → p1 ≤ p3 ∧ p3 ≤ s.length ∧ ft3 = ft1 := fun h => by
    have b := hm2.bad h
    have c := bd2 (by omega)
    refine ⟨?_,?_,?_⟩ <;> omega
  have hst : StepR s (-1) p (pBrack s (pField s d) 20 (blP s p)) (fun y => (20 : Int) = y.k ∧ (0 : Int) = y.wd ∧ (0 : Int) = y.id ∧ (0 : Int) = y.ix ∧ [f] = y.l.map (·.1) ∧ N2 = N ++ preL (y.l.map (·.2))) p3 ft3 := by
    rw [show pBrack s (pField s d) 20 (blP s p) = (pMust s 40 (blP s p)).and fun _ r => (pField s d r).and fun x r => (pMust s 41 r).and fun _ r => .ok ⟨20,0,0,0,[x]⟩ r from by unfold pBrack; simp only [pI20,PR.and_and,PR.and_ok]]
    refine hm1.bind (fun x1 _ g1 o1 _ => ?_) bd1
    subst g1
    refine hm2.bind (fun x2 _ g2 o2 _ => ?_) bd2
    subst g2
    refine hm3.bind (fun x3 _ g3 o3 _ => ?_) bd3
    subst g3
    exact StepR.pure hP3 ⟨rfl,rfl,rfl,rfl,by rw [o2.1]; rfl,by rw [o2.2,List.map_cons,List.map_nil,preL_single]⟩
  refine fun w' hw' => ⟨_,oRr rb s p3 ft3 nv2 :: (RN2 ++ ((oFi b8 f fa fc :: Kf) ++ M)),rfl,Sy.left (A := [oTz b5 20 0 0 0 (.slice (some ⟨b8,0,none⟩) 1 1),oTz b4 20 0 0 0 (.slice (some ⟨b8,0,none⟩) 1 1)]) hw' (fun b hb => ?_),20,0,0,0,[f],(some ⟨b8,0,none⟩),1,(oFi b8 f fa fc :: Kf),p3,ft3,N2,nv2,RN2,rfl,(OwS_iff _ _ _ _).2 (.inr ⟨b8,1,f.cells fa fc,f.cells fa fc,Kf,rfl,rfl,Nat.le_refl _,Nat.le_refl _,.inl rfl,by omega,rfl,rfl,OwK.single hO⟩),hN2,by omega,fun b hb => (List.mem_cons.1 hb).elim (fun h => by rw [h]; exact hb8) (hKf b),hst,rfl⟩
  simp only [List.mem_cons,List.mem_nil_iff,or_false] at hb
  rcases hb with rfl | rfl
  · exact hb5
  · exact hb4
theorem inner16 (d : Nat) (hF : FieldRR d) (hM2 : ManyRR d) : InnerRR d 16 16 := by
  intro wb w rb s p N nv RN M hQ hd
  have hs := hQ.hs
  have hp := hQ.hp
  refine enterB (args := [.pointer (some ⟨rb,0,none⟩),i64 16]) Tryz.func82 rfl Tryz.ntmps82 (congrArg Array.toList Tryz.results82) (by kernel_rfl) (by simp) hQ.hw ?_
  simp (disch:=omega) only[push_cast,Nat.reduceEqDiff]
  refine newI (fun b4 hb4 hn4 => ?_)
  simp (disch:=omega) only[push_cast,Nat.reduceEqDiff]
  refine newI (fun b5 hb5 hn5 => ?_)
  simp (disch:=omega) only[push_cast,Nat.reduceEqDiff]
  refine storeX 0 rfl Siz.eq rfl rfl (by simp [Value.oneCell']) (by simp) ?_
  simp (disch:=omega) only[push_cast,Nat.reduceEqDiff]
  refine callV en_114 (callX_weak (L' := oRr rb s p (-1) nv :: (RN ++ (oTz b5 16 0 0 0 (.slice none 0 0) :: oTz b4 0 0 0 0 (.slice none 0 0) :: M))) (fun w hw => hw.perm (permC (fun f => by simp only [wt_append,wt_cons,wt_nil] <;> omega) : List.Perm (oTz b5 16 0 0 0 (.slice none 0 0) :: oTz b4 0 0 0 0 (.slice none 0 0) :: oRr rb s p (-1) nv :: (RN ++ M)) (oRr rb s p (-1) nv :: (RN ++ (oTz b5 16 0 0 0 (.slice none 0 0) :: oTz b4 0 0 0 0 (.slice none 0 0) :: M))))) (callX_own (S := fun v L' => v = .tuple #[] ∧ ∃ (p' : Nat) (ft' : Int),StepR s (-1) p (pMust s 40 (blP s p)) (fun _ => True) p' ft' ∧ L' = oRr rb s p' ft' nv :: (RN ++ (oTz b5 16 0 0 0 (.slice none 0 0) :: oTz b4 0 0 0 0 (.slice none 0 0) :: M))) (fun w' hw' => mustR_walk wb w' rb s p (-1) nv _ 40 (by decide) hs hp (.inl rfl) hQ.hrb hw') (fun v9 L9 hv9 => ?_)))
  have ev9 := hv9.1
  subst ev9
  (refine Exists.elim (hv9.2) (fun p1 hz => Exists.elim hz (fun ft1 hz => ?_)); have hm1 := hz.1; have ez := hz.2; subst ez; clear hz)
  have q1 := hm1.1
  simp (disch:=omega) only[push_cast,Nat.reduceEqDiff,decide_true,decide_false,Int.reduceEq]
  repeat (first | (rw [V_cond]; (try simp (disch:=omega) only[push_cast,Nat.reduceEqDiff,decide_true,decide_false,Int.reduceEq])) | (rw [V_block]; (try simp (disch:=omega) only[push_cast,Nat.reduceEqDiff,decide_true,decide_false,Int.reduceEq])))
  refine callV en_115 (callX_own (S := fun v L' => ∃ (n : Nat) (p' : Nat) (ft' : Int),v = i64 n ∧ StepR s ft1 p1 (pNum s (blP s p1)) (fun y => n = y) p' ft' ∧ L' = oRr rb s p' ft' nv :: (RN ++ (oTz b5 16 0 0 0 (.slice none 0 0) :: oTz b4 0 0 0 0 (.slice none 0 0) :: M))) (fun w' hw' => numberR_walk wb w' rb s p1 ft1 nv _ hs hm1.2.1 hm1.two hQ.hrb hw') (fun v9 L9 hv9 => ?_))
  (refine Exists.elim (hv9) (fun n2 hz => Exists.elim hz (fun p2 hz => Exists.elim hz (fun ft2 hz => ?_))); have ez := hz.1; subst ez; have hm2 := hz.2.1; have ez := hz.2.2; subst ez; clear hz)
  have q2 := hm2.1
  simp (disch:=omega) only[push_cast,Nat.reduceEqDiff,decide_true,decide_false,Int.reduceEq]
  refine storeX_weak (L' := oTz b5 16 0 0 0 (.slice none 0 0) :: oRr rb s p2 ft2 nv :: (RN ++ (oTz b4 0 0 0 0 (.slice none 0 0) :: M))) (fun w hw => hw.perm (permC (fun f => by simp only [wt_append,wt_cons,wt_nil] <;> omega) : List.Perm (oRr rb s p2 ft2 nv :: (RN ++ (oTz b5 16 0 0 0 (.slice none 0 0) :: oTz b4 0 0 0 0 (.slice none 0 0) :: M))) (oTz b5 16 0 0 0 (.slice none 0 0) :: oRr rb s p2 ft2 nv :: (RN ++ (oTz b4 0 0 0 0 (.slice none 0 0) :: M))))) (storeX 0 rfl Siz.eq rfl rfl (by simp [Value.oneCell']) (by simp) ?_)
  simp (disch:=omega) only[push_cast,Nat.reduceEqDiff,decide_true,decide_false,Int.reduceEq]
  refine callV en_114 (callX_weak (L' := oRr rb s p2 ft2 nv :: (RN ++ (oTz b5 16 n2 0 0 (.slice none 0 0) :: oTz b4 0 0 0 0 (.slice none 0 0) :: M))) (fun w hw => hw.perm (permC (fun f => by simp only [wt_append,wt_cons,wt_nil] <;> omega) : List.Perm (oTz b5 16 n2 0 0 (.slice none 0 0) :: oRr rb s p2 ft2 nv :: (RN ++ (oTz b4 0 0 0 0 (.slice none 0 0) :: M))) (oRr rb s p2 ft2 nv :: (RN ++ (oTz b5 16 n2 0 0 (.slice none 0 0) :: oTz b4 0 0 0 0 (.slice none 0 0) :: M))))) (callX_own (S := fun v L' => v = .tuple #[] ∧ ∃ (p' : Nat) (ft' : Int),StepR s ft2 p2 (pMust s 44 (blP s p2)) (fun _ => True) p' ft' ∧ L' = oRr rb s p' ft' nv :: (RN ++ (oTz b5 16 n2 0 0 (.slice none 0 0) :: oTz b4 0 0 0 0 (.slice none 0 0) :: M))) (fun w' hw' => mustR_walk wb w' rb s p2 ft2 nv _ 44 (by decide) hs hm2.2.1 hm2.two hQ.hrb hw') (fun v9 L9 hv9 => ?_)))
  have ev9 := hv9.1
  subst ev9
  (refine Exists.elim (hv9.2) (fun p3 hz => Exists.elim hz (fun ft3 hz => ?_)); have hm3 := hz.1; have ez := hz.2; subst ez; clear hz)
  have q3 := hm3.1
  simp (disch:=omega) only[push_cast,Nat.reduceEqDiff,decide_true,decide_false,Int.reduceEq]
  repeat (first | (rw [V_cond]; (try simp (disch:=omega) only[push_cast,Nat.reduceEqDiff,decide_true,decide_false,Int.reduceEq])) | (rw [V_block]; (try simp (disch:=omega) only[push_cast,Nat.reduceEqDiff,decide_true,decide_false,Int.reduceEq])))
  have hMt : ∀ b ∈ oTz b5 16 n2 0 0 (.slice none 0 0) :: oTz b4 0 0 0 0 (.slice none 0 0) :: M,wb.heap.size ≤ b.1 := fun b hb => by
    simp only [List.mem_cons] at hb
    rcases hb with rfl | rfl | hb
    · exact hb5
    · exact hb4
    · exact hQ.hM b hb
  have hme : s.length - blP s p3 < d := by
    have := blP_mono (s := s) (show p ≤ p3 by omega)
    omega
  have hNp9 := hQ.hNp
  refine callV en_50 (callX_weak (L' := oRr rb s p3 ft3 nv :: (RN ++ (oTz b5 16 n2 0 0 (.slice none 0 0) :: oTz b4 0 0 0 0 (.slice none 0 0) :: M))) (fun w hw => hw.perm (permC (fun f => by simp only [wt_append,wt_cons,wt_nil] <;> omega) : List.Perm (oRr rb s p3 ft3 nv :: (RN ++ (oTz b5 16 n2 0 0 (.slice none 0 0) :: oTz b4 0 0 0 0 (.slice none 0 0) :: M))) (oRr rb s p3 ft3 nv :: (RN ++ (oTz b5 16 n2 0 0 (.slice none 0 0) :: oTz b4 0 0 0 0 (.slice none 0 0) :: M))))) (callX_own (S := FieldV0 wb rb s p3 ft3 N (oTz b5 16 n2 0 0 (.slice none 0 0) :: oTz b4 0 0 0 0 (.slice none 0 0) :: M) (pField s d (blP s p3))) (fun w' hw' => hF wb w' rb s p3 ft3 N nv RN _ ⟨hs,hm3.2.1,hm3.two,hQ.hrb,hMt,hQ.hN,by omega,hw'⟩ hme) (fun v9 L9 hv9 => ?_)))
  (refine Exists.elim (hv9) (fun f hz => Exists.elim hz (fun fa hz => Exists.elim hz (fun fc hz => Exists.elim hz (fun Kf hz => Exists.elim hz (fun p4 hz => Exists.elim hz (fun ft4 hz => Exists.elim hz (fun N2 hz => Exists.elim hz (fun nv2 hz => Exists.elim hz (fun RN2 hz => ?_))))))))); have ez := hz.1; subst ez; have hO := hz.2.1; have hN2 := hz.2.2.1; have hNp2 := hz.2.2.2.1; have hKf := hz.2.2.2.2.1; have hm4 := hz.2.2.2.2.2.1; have ez := hz.2.2.2.2.2.2; subst ez; clear hz)
  have q4 := hm4.1
  simp (disch:=omega) only[push_cast,Nat.reduceEqDiff,decide_true,decide_false,Int.reduceEq,Fld.cells]
  refine bs_24_1 (newI fun b8 hb8 hn8 => ?_)
  simp (disch:=omega) only[push_cast,Nat.reduceEqDiff,decide_true,decide_false,Int.reduceEq]
  refine storeX_weak (L' := oTz b5 16 n2 0 0 (.slice none 0 0) :: oRr rb s p4 ft4 nv2 :: (RN2 ++ (oFi b8 f fa fc :: (Kf ++ (oTz b4 0 0 0 0 (.slice none 0 0) :: M))))) (fun w hw => hw.perm (permC (fun f => by simp only [wt_append,wt_cons,wt_nil] <;> omega) : List.Perm (oFi b8 f fa fc :: oRr rb s p4 ft4 nv2 :: (RN2 ++ (Kf ++ (oTz b5 16 n2 0 0 (.slice none 0 0) :: oTz b4 0 0 0 0 (.slice none 0 0) :: M)))) (oTz b5 16 n2 0 0 (.slice none 0 0) :: oRr rb s p4 ft4 nv2 :: (RN2 ++ (oFi b8 f fa fc :: (Kf ++ (oTz b4 0 0 0 0 (.slice none 0 0) :: M))))))) (storeX 0 rfl Siz.eq rfl rfl (by simp [Value.oneCell']) (by simp) ?_)
  simp (disch:=omega) only[push_cast,Nat.reduceEqDiff,decide_true,decide_false,Int.reduceEq]
  repeat (first | (rw [V_cond]; (try simp (disch:=omega) only[push_cast,Nat.reduceEqDiff,decide_true,decide_false,Int.reduceEq])) | (rw [V_block]; (try simp (disch:=omega) only[push_cast,Nat.reduceEqDiff,decide_true,decide_false,Int.reduceEq])))
  refine callV en_114 (callX_weak (L' := oRr rb s p4 ft4 nv2 :: (RN2 ++ (oFi b8 f fa fc :: (Kf ++ (oTz b5 16 n2 0 0 (.slice (some ⟨b8,0,none⟩) 1 1) :: oTz b4 0 0 0 0 (.slice none 0 0) :: M))))) (fun w hw => hw.perm (permC (fun f => by simp only [wt_append,wt_cons,wt_nil] <;> omega) : List.Perm (oTz b5 16 n2 0 0 (.slice (some ⟨b8,0,none⟩) 1 1) :: oRr rb s p4 ft4 nv2 :: (RN2 ++ (oFi b8 f fa fc :: (Kf ++ (oTz b4 0 0 0 0 (.slice none 0 0) :: M))))) (oRr rb s p4 ft4 nv2 :: (RN2 ++ (oFi b8 f fa fc :: (Kf ++ (oTz b5 16 n2 0 0 (.slice (some ⟨b8,0,none⟩) 1 1) :: oTz b4 0 0 0 0 (.slice none 0 0) :: M))))))) (callX_own (S := fun v L' => v = .tuple #[] ∧ ∃ (p' : Nat) (ft' : Int),StepR s ft4 p4 (pMust s 41 (blP s p4)) (fun _ => True) p' ft' ∧ L' = oRr rb s p' ft' nv2 :: (RN2 ++ (oFi b8 f fa fc :: (Kf ++ (oTz b5 16 n2 0 0 (.slice (some ⟨b8,0,none⟩) 1 1) :: oTz b4 0 0 0 0 (.slice none 0 0) :: M))))) (fun w' hw' => mustR_walk wb w' rb s p4 ft4 nv2 _ 41 (by decide) hs hm4.2.1 hm4.two hQ.hrb hw') (fun v9 L9 hv9 => ?_)))
  have ev9 := hv9.1
  subst ev9
  (refine Exists.elim (hv9.2) (fun p5 hz => Exists.elim hz (fun ft5 hz => ?_)); have hm5 := hz.1; have ez := hz.2; subst ez; clear hz)
  have q5 := hm5.1
  simp (disch:=omega) only[push_cast,Nat.reduceEqDiff,decide_true,decide_false,Int.reduceEq]
  refine loadX_agg Shp.eq (List.mem_cons_of_mem _ (List.mem_append_right _ (.tail _ (List.mem_append_right _ (.head _))))) rfl rfl ?_
  simp (disch:=omega) only[push_cast,Nat.reduceEqDiff,decide_true,decide_false,Int.reduceEq]
  refine storeX_weak (L' := oTz b5 16 n2 0 0 (.slice (some ⟨b8,0,none⟩) 1 1) :: oTz b4 0 0 0 0 (.slice none 0 0) :: oRr rb s p5 ft5 nv2 :: (RN2 ++ (oFi b8 f fa fc :: (Kf ++ (M))))) (fun w hw => hw.perm (permC (fun f => by simp only [wt_append,wt_cons,wt_nil] <;> omega) : List.Perm (oRr rb s p5 ft5 nv2 :: (RN2 ++ (oFi b8 f fa fc :: (Kf ++ (oTz b5 16 n2 0 0 (.slice (some ⟨b8,0,none⟩) 1 1) :: oTz b4 0 0 0 0 (.slice none 0 0) :: M))))) (oTz b5 16 n2 0 0 (.slice (some ⟨b8,0,none⟩) 1 1) :: oTz b4 0 0 0 0 (.slice none 0 0) :: oRr rb s p5 ft5 nv2 :: (RN2 ++ (oFi b8 f fa fc :: (Kf ++ (M))))))) (storeX 1 rfl Siz.eq rfl rfl (by simp [Value.oneCell']) (by simp) ?_)
  simp (disch:=omega) only[push_cast,Nat.reduceEqDiff,decide_true,decide_false,Int.reduceEq]
  refine loadX_agg Shp.eq mem1 rfl rfl ?_
  simp (disch:=omega) only[push_cast,Nat.reduceEqDiff,decide_true,decide_false,Int.reduceEq]
  have hP5 : p5 ≤ s.length := hm5.2.1
  have hNQ := hQ.hNp
  have bd5 : 0 ≤ ft5 → p5 ≤ p5 ∧ p5 ≤ s.length ∧ ft5 = ft5 := fun _ => ⟨Nat.le_refl _,hP5,rfl⟩
  have bd4 : 0 ≤ ft4 → p4 ≤ p5 ∧ p5 ≤ s.length ∧ ft5 = ft4 := fun h => by
    have b := hm5.bad h
    have c := bd5 (by omega)
    refine ⟨?_,?_,?_⟩ <;> omega
  have bd3 : 0 ≤ ft3 → p3 ≤ p5 ∧ p5 ≤ s.length ∧ ft5 = ft3 := fun h => by
    have b := hm4.bad h
    have c := bd4 (by omega)
    refine ⟨?_,?_,?_⟩ <;> omega
  have bd2 : 0 ≤ ft2 → p2 ≤ p5 ∧ p5 ≤ s.length ∧ ft5 = ft2 := fun h => by
    have b := hm3.bad h
    have c := bd3 (by omega)
    refine ⟨?_,?_,?_⟩ <;> omega
  have bd1 : 0 ≤ ft1 → p1 ≤ p5 ∧ p5 ≤ s.length ∧ ft5 = ft1 := fun h => by
    have b := hm2.bad h
    have c := bd2 (by omega)
    refine ⟨?_,?_,?_⟩ <;> omega
  have hst : StepR s (-1) p (pBrack s (pField s d) 16 (blP s p)) (fun y => (16 : Int) = y.k ∧ (n2 : Int) = y.wd ∧ (0 : Int) = y.id ∧ (0 : Int) = y.ix ∧ [f] = y.l.map (·.1) ∧ N2 = N ++ preL (y.l.map (·.2))) p5 ft5 := by
    rw [show pBrack s (pField s d) 16 (blP s p) = (pMust s 40 (blP s p)).and fun _ r => (pNum s r).and fun n r => (pMust s 44 r).and fun _ r => (pField s d r).and fun x r => (pMust s 41 r).and fun _ r => .ok ⟨16,n,0,0,[x]⟩ r from by unfold pBrack; simp only [pI16,PR.and_and,PR.and_ok]]
    refine hm1.bind (fun x1 _ g1 o1 _ => ?_) bd1
    subst g1
    refine hm2.bind (fun x2 _ g2 o2 _ => ?_) bd2
    subst g2
    refine hm3.bind (fun x3 _ g3 o3 _ => ?_) bd3
    subst g3
    refine hm4.bind (fun x4 _ g4 o4 _ => ?_) bd4
    subst g4
    refine hm5.bind (fun x5 _ g5 o5 _ => ?_) bd5
    subst g5
    exact StepR.pure hP5 ⟨rfl,by rw [o2],rfl,rfl,by rw [o4.1]; rfl,by rw [o4.2,List.map_cons,List.map_nil,preL_single]⟩
  refine fun w' hw' => ⟨_,oRr rb s p5 ft5 nv2 :: (RN2 ++ ((oFi b8 f fa fc :: Kf) ++ M)),rfl,Sy.left (A := [oTz b5 16 n2 0 0 (.slice (some ⟨b8,0,none⟩) 1 1),oTz b4 16 n2 0 0 (.slice (some ⟨b8,0,none⟩) 1 1)]) hw' (fun b hb => ?_),16,n2,0,0,[f],(some ⟨b8,0,none⟩),1,(oFi b8 f fa fc :: Kf),p5,ft5,N2,nv2,RN2,rfl,(OwS_iff _ _ _ _).2 (.inr ⟨b8,1,f.cells fa fc,f.cells fa fc,Kf,rfl,rfl,Nat.le_refl _,Nat.le_refl _,.inl rfl,by omega,rfl,rfl,OwK.single hO⟩),hN2,by omega,fun b hb => (List.mem_cons.1 hb).elim (fun h => by rw [h]; exact hb8) (hKf b),hst,rfl⟩
  simp only [List.mem_cons,List.mem_nil_iff,or_false] at hb
  rcases hb with rfl | rfl
  · exact hb5
  · exact hb4
theorem inner19 (d : Nat) (hF : FieldRR d) (hM2 : ManyRR d) : InnerRR d 19 19 := by
  intro wb w rb s p N nv RN M hQ hd
  have hs := hQ.hs
  have hp := hQ.hp
  refine enterB (args := [.pointer (some ⟨rb,0,none⟩),i64 19]) Tryz.func82 rfl Tryz.ntmps82 (congrArg Array.toList Tryz.results82) (by kernel_rfl) (by simp) hQ.hw ?_
  simp (disch:=omega) only[push_cast,Nat.reduceEqDiff]
  refine newI (fun b4 hb4 hn4 => ?_)
  simp (disch:=omega) only[push_cast,Nat.reduceEqDiff]
  refine newI (fun b5 hb5 hn5 => ?_)
  simp (disch:=omega) only[push_cast,Nat.reduceEqDiff]
  refine storeX 0 rfl Siz.eq rfl rfl (by simp [Value.oneCell']) (by simp) ?_
  simp (disch:=omega) only[push_cast,Nat.reduceEqDiff]
  refine callV en_114 (callX_weak (L' := oRr rb s p (-1) nv :: (RN ++ (oTz b5 19 0 0 0 (.slice none 0 0) :: oTz b4 0 0 0 0 (.slice none 0 0) :: M))) (fun w hw => hw.perm (permC (fun f => by simp only [wt_append,wt_cons,wt_nil] <;> omega) : List.Perm (oTz b5 19 0 0 0 (.slice none 0 0) :: oTz b4 0 0 0 0 (.slice none 0 0) :: oRr rb s p (-1) nv :: (RN ++ M)) (oRr rb s p (-1) nv :: (RN ++ (oTz b5 19 0 0 0 (.slice none 0 0) :: oTz b4 0 0 0 0 (.slice none 0 0) :: M))))) (callX_own (S := fun v L' => v = .tuple #[] ∧ ∃ (p' : Nat) (ft' : Int),StepR s (-1) p (pMust s 40 (blP s p)) (fun _ => True) p' ft' ∧ L' = oRr rb s p' ft' nv :: (RN ++ (oTz b5 19 0 0 0 (.slice none 0 0) :: oTz b4 0 0 0 0 (.slice none 0 0) :: M))) (fun w' hw' => mustR_walk wb w' rb s p (-1) nv _ 40 (by decide) hs hp (.inl rfl) hQ.hrb hw') (fun v9 L9 hv9 => ?_)))
  have ev9 := hv9.1
  subst ev9
  (refine Exists.elim (hv9.2) (fun p1 hz => Exists.elim hz (fun ft1 hz => ?_)); have hm1 := hz.1; have ez := hz.2; subst ez; clear hz)
  have q1 := hm1.1
  simp (disch:=omega) only[push_cast,Nat.reduceEqDiff,decide_true,decide_false,Int.reduceEq]
  repeat (first | (rw [V_cond]; (try simp (disch:=omega) only[push_cast,Nat.reduceEqDiff,decide_true,decide_false,Int.reduceEq])) | (rw [V_block]; (try simp (disch:=omega) only[push_cast,Nat.reduceEqDiff,decide_true,decide_false,Int.reduceEq])))
  refine callV en_115 (callX_own (S := fun v L' => ∃ (n : Nat) (p' : Nat) (ft' : Int),v = i64 n ∧ StepR s ft1 p1 (pNum s (blP s p1)) (fun y => n = y) p' ft' ∧ L' = oRr rb s p' ft' nv :: (RN ++ (oTz b5 19 0 0 0 (.slice none 0 0) :: oTz b4 0 0 0 0 (.slice none 0 0) :: M))) (fun w' hw' => numberR_walk wb w' rb s p1 ft1 nv _ hs hm1.2.1 hm1.two hQ.hrb hw') (fun v9 L9 hv9 => ?_))
  (refine Exists.elim (hv9) (fun n2 hz => Exists.elim hz (fun p2 hz => Exists.elim hz (fun ft2 hz => ?_))); have ez := hz.1; subst ez; have hm2 := hz.2.1; have ez := hz.2.2; subst ez; clear hz)
  have q2 := hm2.1
  simp (disch:=omega) only[push_cast,Nat.reduceEqDiff,decide_true,decide_false,Int.reduceEq]
  refine storeX_weak (L' := oTz b5 19 0 0 0 (.slice none 0 0) :: oRr rb s p2 ft2 nv :: (RN ++ (oTz b4 0 0 0 0 (.slice none 0 0) :: M))) (fun w hw => hw.perm (permC (fun f => by simp only [wt_append,wt_cons,wt_nil] <;> omega) : List.Perm (oRr rb s p2 ft2 nv :: (RN ++ (oTz b5 19 0 0 0 (.slice none 0 0) :: oTz b4 0 0 0 0 (.slice none 0 0) :: M))) (oTz b5 19 0 0 0 (.slice none 0 0) :: oRr rb s p2 ft2 nv :: (RN ++ (oTz b4 0 0 0 0 (.slice none 0 0) :: M))))) (storeX 0 rfl Siz.eq rfl rfl (by simp [Value.oneCell']) (by simp) ?_)
  simp (disch:=omega) only[push_cast,Nat.reduceEqDiff,decide_true,decide_false,Int.reduceEq]
  refine callV en_114 (callX_weak (L' := oRr rb s p2 ft2 nv :: (RN ++ (oTz b5 19 0 n2 0 (.slice none 0 0) :: oTz b4 0 0 0 0 (.slice none 0 0) :: M))) (fun w hw => hw.perm (permC (fun f => by simp only [wt_append,wt_cons,wt_nil] <;> omega) : List.Perm (oTz b5 19 0 n2 0 (.slice none 0 0) :: oRr rb s p2 ft2 nv :: (RN ++ (oTz b4 0 0 0 0 (.slice none 0 0) :: M))) (oRr rb s p2 ft2 nv :: (RN ++ (oTz b5 19 0 n2 0 (.slice none 0 0) :: oTz b4 0 0 0 0 (.slice none 0 0) :: M))))) (callX_own (S := fun v L' => v = .tuple #[] ∧ ∃ (p' : Nat) (ft' : Int),StepR s ft2 p2 (pMust s 44 (blP s p2)) (fun _ => True) p' ft' ∧ L' = oRr rb s p' ft' nv :: (RN ++ (oTz b5 19 0 n2 0 (.slice none 0 0) :: oTz b4 0 0 0 0 (.slice none 0 0) :: M))) (fun w' hw' => mustR_walk wb w' rb s p2 ft2 nv _ 44 (by decide) hs hm2.2.1 hm2.two hQ.hrb hw') (fun v9 L9 hv9 => ?_)))
  have ev9 := hv9.1
  subst ev9
  (refine Exists.elim (hv9.2) (fun p3 hz => Exists.elim hz (fun ft3 hz => ?_)); have hm3 := hz.1; have ez := hz.2; subst ez; clear hz)
  have q3 := hm3.1
  simp (disch:=omega) only[push_cast,Nat.reduceEqDiff,decide_true,decide_false,Int.reduceEq]
  refine ldOne Shp.eq mem0 rfl ?_
  simp (disch:=omega) only[push_cast,Nat.reduceEqDiff,decide_true,decide_false,Int.reduceEq]
  rw [V_cond]
  simp (disch:=omega) only[push_cast,Nat.reduceEqDiff,decide_true,decide_false,Int.reduceEq]
  refine condX_d (fun hneg => ?_) (fun hge => ?_)
  · obtain rfl : ft3 = -1 := hm3.two.resolve_right (by omega)
    simp (disch:=omega) only[push_cast,Nat.reduceEqDiff,decide_true,decide_false,Int.reduceEq]
    refine callV en_116 (callX_own (S := fun v L' => ∃ (n : Nat) (p' : Nat) (ft' : Int),v = i64 n ∧ StepR s (-1) p3 (pKind s saysIdx (blP s p3)) (fun y => n = y) p' ft' ∧ L' = oRr rb s p' ft' nv :: (RN ++ (oTz b5 19 0 n2 0 (.slice none 0 0) :: oTz b4 0 0 0 0 (.slice none 0 0) :: M))) (fun w' hw' => indexR_walk wb w' rb s p3 nv _ hs hm3.2.1 hQ.hrb hw') (fun v9 L9 hv9 => ?_))
    (refine Exists.elim (hv9) (fun n4 hz => Exists.elim hz (fun p4 hz => Exists.elim hz (fun ft4 hz => ?_))); have ez := hz.1; subst ez; have hm4 := hz.2.1; have ez := hz.2.2; subst ez; clear hz)
    have q4 := hm4.1
    simp (disch:=omega) only[push_cast,Nat.reduceEqDiff,decide_true,decide_false,Int.reduceEq]
    refine storeX_weak (L' := oTz b5 19 0 n2 0 (.slice none 0 0) :: oRr rb s p4 ft4 nv :: (RN ++ (oTz b4 0 0 0 0 (.slice none 0 0) :: M))) (fun w hw => hw.perm (permC (fun f => by simp only [wt_append,wt_cons,wt_nil] <;> omega) : List.Perm (oRr rb s p4 ft4 nv :: (RN ++ (oTz b5 19 0 n2 0 (.slice none 0 0) :: oTz b4 0 0 0 0 (.slice none 0 0) :: M))) (oTz b5 19 0 n2 0 (.slice none 0 0) :: oRr rb s p4 ft4 nv :: (RN ++ (oTz b4 0 0 0 0 (.slice none 0 0) :: M))))) (storeX 0 rfl Siz.eq rfl rfl (by simp [Value.oneCell']) (by simp) ?_)
    simp (disch:=omega) only[push_cast,Nat.reduceEqDiff,decide_true,decide_false,Int.reduceEq]
    refine callV en_114 (callX_weak (L' := oRr rb s p4 ft4 nv :: (RN ++ (oTz b5 19 0 n2 n4 (.slice none 0 0) :: oTz b4 0 0 0 0 (.slice none 0 0) :: M))) (fun w hw => hw.perm (permC (fun f => by simp only [wt_append,wt_cons,wt_nil] <;> omega) : List.Perm (oTz b5 19 0 n2 n4 (.slice none 0 0) :: oRr rb s p4 ft4 nv :: (RN ++ (oTz b4 0 0 0 0 (.slice none 0 0) :: M))) (oRr rb s p4 ft4 nv :: (RN ++ (oTz b5 19 0 n2 n4 (.slice none 0 0) :: oTz b4 0 0 0 0 (.slice none 0 0) :: M))))) (callX_own (S := fun v L' => v = .tuple #[] ∧ ∃ (p' : Nat) (ft' : Int),StepR s ft4 p4 (pMust s 44 (blP s p4)) (fun _ => True) p' ft' ∧ L' = oRr rb s p' ft' nv :: (RN ++ (oTz b5 19 0 n2 n4 (.slice none 0 0) :: oTz b4 0 0 0 0 (.slice none 0 0) :: M))) (fun w' hw' => mustR_walk wb w' rb s p4 ft4 nv _ 44 (by decide) hs hm4.2.1 hm4.two hQ.hrb hw') (fun v9 L9 hv9 => ?_)))
    have ev9 := hv9.1
    subst ev9
    (refine Exists.elim (hv9.2) (fun p5 hz => Exists.elim hz (fun ft5 hz => ?_)); have hm5 := hz.1; have ez := hz.2; subst ez; clear hz)
    have q5 := hm5.1
    simp (disch:=omega) only[push_cast,Nat.reduceEqDiff,decide_true,decide_false,Int.reduceEq]
    repeat (first | (rw [V_cond]; (try simp (disch:=omega) only[push_cast,Nat.reduceEqDiff,decide_true,decide_false,Int.reduceEq])) | (rw [V_block]; (try simp (disch:=omega) only[push_cast,Nat.reduceEqDiff,decide_true,decide_false,Int.reduceEq])))
    have hMt : ∀ b ∈ oTz b5 19 0 n2 n4 (.slice none 0 0) :: oTz b4 0 0 0 0 (.slice none 0 0) :: M,wb.heap.size ≤ b.1 := fun b hb => by
      simp only [List.mem_cons] at hb
      rcases hb with rfl | rfl | hb
      · exact hb5
      · exact hb4
      · exact hQ.hM b hb
    have hme : s.length - blP s p5 < d := by
      have := blP_mono (s := s) (show p ≤ p5 by omega)
      omega
    have hNp9 := hQ.hNp
    refine callV en_50 (callX_weak (L' := oRr rb s p5 ft5 nv :: (RN ++ (oTz b5 19 0 n2 n4 (.slice none 0 0) :: oTz b4 0 0 0 0 (.slice none 0 0) :: M))) (fun w hw => hw.perm (permC (fun f => by simp only [wt_append,wt_cons,wt_nil] <;> omega) : List.Perm (oRr rb s p5 ft5 nv :: (RN ++ (oTz b5 19 0 n2 n4 (.slice none 0 0) :: oTz b4 0 0 0 0 (.slice none 0 0) :: M))) (oRr rb s p5 ft5 nv :: (RN ++ (oTz b5 19 0 n2 n4 (.slice none 0 0) :: oTz b4 0 0 0 0 (.slice none 0 0) :: M))))) (callX_own (S := FieldV0 wb rb s p5 ft5 N (oTz b5 19 0 n2 n4 (.slice none 0 0) :: oTz b4 0 0 0 0 (.slice none 0 0) :: M) (pField s d (blP s p5))) (fun w' hw' => hF wb w' rb s p5 ft5 N nv RN _ ⟨hs,hm5.2.1,hm5.two,hQ.hrb,hMt,hQ.hN,by omega,hw'⟩ hme) (fun v9 L9 hv9 => ?_)))
    (refine Exists.elim (hv9) (fun f hz => Exists.elim hz (fun fa hz => Exists.elim hz (fun fc hz => Exists.elim hz (fun Kf hz => Exists.elim hz (fun p6 hz => Exists.elim hz (fun ft6 hz => Exists.elim hz (fun N2 hz => Exists.elim hz (fun nv2 hz => Exists.elim hz (fun RN2 hz => ?_))))))))); have ez := hz.1; subst ez; have hO := hz.2.1; have hN2 := hz.2.2.1; have hNp2 := hz.2.2.2.1; have hKf := hz.2.2.2.2.1; have hm6 := hz.2.2.2.2.2.1; have ez := hz.2.2.2.2.2.2; subst ez; clear hz)
    have q6 := hm6.1
    simp (disch:=omega) only[push_cast,Nat.reduceEqDiff,decide_true,decide_false,Int.reduceEq,Fld.cells]
    refine bs_24_1 (newI fun b8 hb8 hn8 => ?_)
    simp (disch:=omega) only[push_cast,Nat.reduceEqDiff,decide_true,decide_false,Int.reduceEq]
    refine storeX_weak (L' := oTz b5 19 0 n2 n4 (.slice none 0 0) :: oRr rb s p6 ft6 nv2 :: (RN2 ++ (oFi b8 f fa fc :: (Kf ++ (oTz b4 0 0 0 0 (.slice none 0 0) :: M))))) (fun w hw => hw.perm (permC (fun f => by simp only [wt_append,wt_cons,wt_nil] <;> omega) : List.Perm (oFi b8 f fa fc :: oRr rb s p6 ft6 nv2 :: (RN2 ++ (Kf ++ (oTz b5 19 0 n2 n4 (.slice none 0 0) :: oTz b4 0 0 0 0 (.slice none 0 0) :: M)))) (oTz b5 19 0 n2 n4 (.slice none 0 0) :: oRr rb s p6 ft6 nv2 :: (RN2 ++ (oFi b8 f fa fc :: (Kf ++ (oTz b4 0 0 0 0 (.slice none 0 0) :: M))))))) (storeX 0 rfl Siz.eq rfl rfl (by simp [Value.oneCell']) (by simp) ?_)
    simp (disch:=omega) only[push_cast,Nat.reduceEqDiff,decide_true,decide_false,Int.reduceEq]
    repeat (first | (rw [V_cond]; (try simp (disch:=omega) only[push_cast,Nat.reduceEqDiff,decide_true,decide_false,Int.reduceEq])) | (rw [V_block]; (try simp (disch:=omega) only[push_cast,Nat.reduceEqDiff,decide_true,decide_false,Int.reduceEq])))
    refine callV en_114 (callX_weak (L' := oRr rb s p6 ft6 nv2 :: (RN2 ++ (oFi b8 f fa fc :: (Kf ++ (oTz b5 19 0 n2 n4 (.slice (some ⟨b8,0,none⟩) 1 1) :: oTz b4 0 0 0 0 (.slice none 0 0) :: M))))) (fun w hw => hw.perm (permC (fun f => by simp only [wt_append,wt_cons,wt_nil] <;> omega) : List.Perm (oTz b5 19 0 n2 n4 (.slice (some ⟨b8,0,none⟩) 1 1) :: oRr rb s p6 ft6 nv2 :: (RN2 ++ (oFi b8 f fa fc :: (Kf ++ (oTz b4 0 0 0 0 (.slice none 0 0) :: M))))) (oRr rb s p6 ft6 nv2 :: (RN2 ++ (oFi b8 f fa fc :: (Kf ++ (oTz b5 19 0 n2 n4 (.slice (some ⟨b8,0,none⟩) 1 1) :: oTz b4 0 0 0 0 (.slice none 0 0) :: M))))))) (callX_own (S := fun v L' => v = .tuple #[] ∧ ∃ (p' : Nat) (ft' : Int),StepR s ft6 p6 (pMust s 41 (blP s p6)) (fun _ => True) p' ft' ∧ L' = oRr rb s p' ft' nv2 :: (RN2 ++ (oFi b8 f fa fc :: (Kf ++ (oTz b5 19 0 n2 n4 (.slice (some ⟨b8,0,none⟩) 1 1) :: oTz b4 0 0 0 0 (.slice none 0 0) :: M))))) (fun w' hw' => mustR_walk wb w' rb s p6 ft6 nv2 _ 41 (by decide) hs hm6.2.1 hm6.two hQ.hrb hw') (fun v9 L9 hv9 => ?_)))
    have ev9 := hv9.1
    subst ev9
    (refine Exists.elim (hv9.2) (fun p7 hz => Exists.elim hz (fun ft7 hz => ?_)); have hm7 := hz.1; have ez := hz.2; subst ez; clear hz)
    have q7 := hm7.1
    simp (disch:=omega) only[push_cast,Nat.reduceEqDiff,decide_true,decide_false,Int.reduceEq]
    refine loadX_agg Shp.eq (List.mem_cons_of_mem _ (List.mem_append_right _ (.tail _ (List.mem_append_right _ (.head _))))) rfl rfl ?_
    simp (disch:=omega) only[push_cast,Nat.reduceEqDiff,decide_true,decide_false,Int.reduceEq]
    refine storeX_weak (L' := oTz b5 19 0 n2 n4 (.slice (some ⟨b8,0,none⟩) 1 1) :: oTz b4 0 0 0 0 (.slice none 0 0) :: oRr rb s p7 ft7 nv2 :: (RN2 ++ (oFi b8 f fa fc :: (Kf ++ (M))))) (fun w hw => hw.perm (permC (fun f => by simp only [wt_append,wt_cons,wt_nil] <;> omega) : List.Perm (oRr rb s p7 ft7 nv2 :: (RN2 ++ (oFi b8 f fa fc :: (Kf ++ (oTz b5 19 0 n2 n4 (.slice (some ⟨b8,0,none⟩) 1 1) :: oTz b4 0 0 0 0 (.slice none 0 0) :: M))))) (oTz b5 19 0 n2 n4 (.slice (some ⟨b8,0,none⟩) 1 1) :: oTz b4 0 0 0 0 (.slice none 0 0) :: oRr rb s p7 ft7 nv2 :: (RN2 ++ (oFi b8 f fa fc :: (Kf ++ (M))))))) (storeX 1 rfl Siz.eq rfl rfl (by simp [Value.oneCell']) (by simp) ?_)
    simp (disch:=omega) only[push_cast,Nat.reduceEqDiff,decide_true,decide_false,Int.reduceEq]
    refine loadX_agg Shp.eq mem1 rfl rfl ?_
    simp (disch:=omega) only[push_cast,Nat.reduceEqDiff,decide_true,decide_false,Int.reduceEq]
    have hP7 : p7 ≤ s.length := hm7.2.1
    have hNQ := hQ.hNp
    have bd7 : 0 ≤ ft7 → p7 ≤ p7 ∧ p7 ≤ s.length ∧ ft7 = ft7 := fun _ => ⟨Nat.le_refl _,hP7,rfl⟩
    have bd6 : 0 ≤ ft6 → p6 ≤ p7 ∧ p7 ≤ s.length ∧ ft7 = ft6 := fun h => by
      have b := hm7.bad h
      have c := bd7 (by omega)
      refine ⟨?_,?_,?_⟩ <;> omega
    have bd5 : 0 ≤ ft5 → p5 ≤ p7 ∧ p7 ≤ s.length ∧ ft7 = ft5 := fun h => by
      have b := hm6.bad h
      have c := bd6 (by omega)
      refine ⟨?_,?_,?_⟩ <;> omega
    have bd4 : 0 ≤ ft4 → p4 ≤ p7 ∧ p7 ≤ s.length ∧ ft7 = ft4 := fun h => by
      have b := hm5.bad h
      have c := bd5 (by omega)
      refine ⟨?_,?_,?_⟩ <;> omega
    have bd3 : 0 ≤ (-1) → p3 ≤ p7 ∧ p7 ≤ s.length ∧ ft7 = (-1) := fun h => by
      have b := hm4.bad h
      have c := bd4 (by omega)
      refine ⟨?_,?_,?_⟩ <;> omega
    have bd2 : 0 ≤ ft2 → p2 ≤ p7 ∧ p7 ≤ s.length ∧ ft7 = ft2 := fun h => by
      have b := hm3.bad h
      have c := bd3 (by omega)
      refine ⟨?_,?_,?_⟩ <;> omega
    have bd1 : 0 ≤ ft1 → p1 ≤ p7 ∧ p7 ≤ s.length ∧ ft7 = ft1 := fun h => by
      have b := hm2.bad h
      have c := bd2 (by omega)
      refine ⟨?_,?_,?_⟩ <;> omega
    have hst : StepR s (-1) p (pBrack s (pField s d) 19 (blP s p)) (fun y => (19 : Int) = y.k ∧ (0 : Int) = y.wd ∧ (n2 : Int) = y.id ∧ (n4 : Int) = y.ix ∧ [f] = y.l.map (·.1) ∧ N2 = N ++ preL (y.l.map (·.2))) p7 ft7 := by
      rw [show pBrack s (pField s d) 19 (blP s p) = (pMust s 40 (blP s p)).and fun _ r => (pNum s r).and fun n r => (pMust s 44 r).and fun _ r => (pKind s saysIdx r).and fun i r => (pMust s 44 r).and fun _ r => (pField s d r).and fun x r => (pMust s 41 r).and fun _ r => .ok ⟨19,0,n,i,[x]⟩ r from by unfold pBrack; simp only [pI19,PR.and_and,PR.and_ok]]
      refine hm1.bind (fun x1 _ g1 o1 _ => ?_) bd1
      subst g1
      refine hm2.bind (fun x2 _ g2 o2 _ => ?_) bd2
      subst g2
      refine hm3.bind (fun x3 _ g3 o3 _ => ?_) bd3
      skip
      refine hm4.bind (fun x4 _ g4 o4 _ => ?_) bd4
      subst g4
      refine hm5.bind (fun x5 _ g5 o5 _ => ?_) bd5
      subst g5
      refine hm6.bind (fun x6 _ g6 o6 _ => ?_) bd6
      subst g6
      refine hm7.bind (fun x7 _ g7 o7 _ => ?_) bd7
      subst g7
      exact StepR.pure hP7 ⟨rfl,rfl,by subst o2; rfl,by subst o4; rfl,by rw [o6.1]; rfl,by rw [o6.2,List.map_cons,List.map_nil,preL_single]⟩
    refine fun w' hw' => ⟨_,oRr rb s p7 ft7 nv2 :: (RN2 ++ ((oFi b8 f fa fc :: Kf) ++ M)),rfl,Sy.left (A := [oTz b5 19 0 n2 n4 (.slice (some ⟨b8,0,none⟩) 1 1),oTz b4 19 0 n2 n4 (.slice (some ⟨b8,0,none⟩) 1 1)]) hw' (fun b hb => ?_),19,0,n2,n4,[f],(some ⟨b8,0,none⟩),1,(oFi b8 f fa fc :: Kf),p7,ft7,N2,nv2,RN2,rfl,(OwS_iff _ _ _ _).2 (.inr ⟨b8,1,f.cells fa fc,f.cells fa fc,Kf,rfl,rfl,Nat.le_refl _,Nat.le_refl _,.inl rfl,by omega,rfl,rfl,OwK.single hO⟩),hN2,by omega,fun b hb => (List.mem_cons.1 hb).elim (fun h => by rw [h]; exact hb8) (hKf b),hst,rfl⟩
    simp only [List.mem_cons,List.mem_nil_iff,or_false] at hb
    rcases hb with rfl | rfl
    · exact hb5
    · exact hb4
  · have hge2 : 0 ≤ ft3 := by omega
    have hm4 : StepR s ft3 p3 (pKind s saysIdx (blP s p3)) (fun y => (0 : Nat) = y) p3 ft3 := ⟨Nat.le_refl _,hm3.2.1,.inr ⟨hge2,fun h => by omega,fun _ => rfl⟩⟩
    simp (disch:=omega) only[push_cast,Nat.reduceEqDiff,decide_true,decide_false,Int.reduceEq]
    refine callV en_114 (callX_weak (L' := oRr rb s p3 ft3 nv :: (RN ++ (oTz b5 19 0 n2 0 (.slice none 0 0) :: oTz b4 0 0 0 0 (.slice none 0 0) :: M))) (fun w hw => hw.perm (permC (fun f => by simp only [wt_append,wt_cons,wt_nil] <;> omega) : List.Perm (oRr rb s p3 ft3 nv :: (RN ++ (oTz b5 19 0 n2 0 (.slice none 0 0) :: oTz b4 0 0 0 0 (.slice none 0 0) :: M))) (oRr rb s p3 ft3 nv :: (RN ++ (oTz b5 19 0 n2 0 (.slice none 0 0) :: oTz b4 0 0 0 0 (.slice none 0 0) :: M))))) (callX_own (S := fun v L' => v = .tuple #[] ∧ ∃ (p' : Nat) (ft' : Int),StepR s ft3 p3 (pMust s 44 (blP s p3)) (fun _ => True) p' ft' ∧ L' = oRr rb s p' ft' nv :: (RN ++ (oTz b5 19 0 n2 0 (.slice none 0 0) :: oTz b4 0 0 0 0 (.slice none 0 0) :: M))) (fun w' hw' => mustR_walk wb w' rb s p3 ft3 nv _ 44 (by decide) hs hm4.2.1 hm4.two hQ.hrb hw') (fun v9 L9 hv9 => ?_)))
    have ev9 := hv9.1
    subst ev9
    (refine Exists.elim (hv9.2) (fun p5 hz => Exists.elim hz (fun ft5 hz => ?_)); have hm5 := hz.1; have ez := hz.2; subst ez; clear hz)
    have q5 := hm5.1
    simp (disch:=omega) only[push_cast,Nat.reduceEqDiff,decide_true,decide_false,Int.reduceEq]
    repeat (first | (rw [V_cond]; (try simp (disch:=omega) only[push_cast,Nat.reduceEqDiff,decide_true,decide_false,Int.reduceEq])) | (rw [V_block]; (try simp (disch:=omega) only[push_cast,Nat.reduceEqDiff,decide_true,decide_false,Int.reduceEq])))
    have hMt : ∀ b ∈ oTz b5 19 0 n2 0 (.slice none 0 0) :: oTz b4 0 0 0 0 (.slice none 0 0) :: M,wb.heap.size ≤ b.1 := fun b hb => by
      simp only [List.mem_cons] at hb
      rcases hb with rfl | rfl | hb
      · exact hb5
      · exact hb4
      · exact hQ.hM b hb
    have hme : s.length - blP s p5 < d := by
      have := blP_mono (s := s) (show p ≤ p5 by omega)
      omega
    have hNp9 := hQ.hNp
    refine callV en_50 (callX_weak (L' := oRr rb s p5 ft5 nv :: (RN ++ (oTz b5 19 0 n2 0 (.slice none 0 0) :: oTz b4 0 0 0 0 (.slice none 0 0) :: M))) (fun w hw => hw.perm (permC (fun f => by simp only [wt_append,wt_cons,wt_nil] <;> omega) : List.Perm (oRr rb s p5 ft5 nv :: (RN ++ (oTz b5 19 0 n2 0 (.slice none 0 0) :: oTz b4 0 0 0 0 (.slice none 0 0) :: M))) (oRr rb s p5 ft5 nv :: (RN ++ (oTz b5 19 0 n2 0 (.slice none 0 0) :: oTz b4 0 0 0 0 (.slice none 0 0) :: M))))) (callX_own (S := FieldV0 wb rb s p5 ft5 N (oTz b5 19 0 n2 0 (.slice none 0 0) :: oTz b4 0 0 0 0 (.slice none 0 0) :: M) (pField s d (blP s p5))) (fun w' hw' => hF wb w' rb s p5 ft5 N nv RN _ ⟨hs,hm5.2.1,hm5.two,hQ.hrb,hMt,hQ.hN,by omega,hw'⟩ hme) (fun v9 L9 hv9 => ?_)))
    (refine Exists.elim (hv9) (fun f hz => Exists.elim hz (fun fa hz => Exists.elim hz (fun fc hz => Exists.elim hz (fun Kf hz => Exists.elim hz (fun p6 hz => Exists.elim hz (fun ft6 hz => Exists.elim hz (fun N2 hz => Exists.elim hz (fun nv2 hz => Exists.elim hz (fun RN2 hz => ?_))))))))); have ez := hz.1; subst ez; have hO := hz.2.1; have hN2 := hz.2.2.1; have hNp2 := hz.2.2.2.1; have hKf := hz.2.2.2.2.1; have hm6 := hz.2.2.2.2.2.1; have ez := hz.2.2.2.2.2.2; subst ez; clear hz)
    have q6 := hm6.1
    simp (disch:=omega) only[push_cast,Nat.reduceEqDiff,decide_true,decide_false,Int.reduceEq,Fld.cells]
    refine bs_24_1 (newI fun b8 hb8 hn8 => ?_)
    simp (disch:=omega) only[push_cast,Nat.reduceEqDiff,decide_true,decide_false,Int.reduceEq]
    refine storeX_weak (L' := oTz b5 19 0 n2 0 (.slice none 0 0) :: oRr rb s p6 ft6 nv2 :: (RN2 ++ (oFi b8 f fa fc :: (Kf ++ (oTz b4 0 0 0 0 (.slice none 0 0) :: M))))) (fun w hw => hw.perm (permC (fun f => by simp only [wt_append,wt_cons,wt_nil] <;> omega) : List.Perm (oFi b8 f fa fc :: oRr rb s p6 ft6 nv2 :: (RN2 ++ (Kf ++ (oTz b5 19 0 n2 0 (.slice none 0 0) :: oTz b4 0 0 0 0 (.slice none 0 0) :: M)))) (oTz b5 19 0 n2 0 (.slice none 0 0) :: oRr rb s p6 ft6 nv2 :: (RN2 ++ (oFi b8 f fa fc :: (Kf ++ (oTz b4 0 0 0 0 (.slice none 0 0) :: M))))))) (storeX 0 rfl Siz.eq rfl rfl (by simp [Value.oneCell']) (by simp) ?_)
    simp (disch:=omega) only[push_cast,Nat.reduceEqDiff,decide_true,decide_false,Int.reduceEq]
    repeat (first | (rw [V_cond]; (try simp (disch:=omega) only[push_cast,Nat.reduceEqDiff,decide_true,decide_false,Int.reduceEq])) | (rw [V_block]; (try simp (disch:=omega) only[push_cast,Nat.reduceEqDiff,decide_true,decide_false,Int.reduceEq])))
    refine callV en_114 (callX_weak (L' := oRr rb s p6 ft6 nv2 :: (RN2 ++ (oFi b8 f fa fc :: (Kf ++ (oTz b5 19 0 n2 0 (.slice (some ⟨b8,0,none⟩) 1 1) :: oTz b4 0 0 0 0 (.slice none 0 0) :: M))))) (fun w hw => hw.perm (permC (fun f => by simp only [wt_append,wt_cons,wt_nil] <;> omega) : List.Perm (oTz b5 19 0 n2 0 (.slice (some ⟨b8,0,none⟩) 1 1) :: oRr rb s p6 ft6 nv2 :: (RN2 ++ (oFi b8 f fa fc :: (Kf ++ (oTz b4 0 0 0 0 (.slice none 0 0) :: M))))) (oRr rb s p6 ft6 nv2 :: (RN2 ++ (oFi b8 f fa fc :: (Kf ++ (oTz b5 19 0 n2 0 (.slice (some ⟨b8,0,none⟩) 1 1) :: oTz b4 0 0 0 0 (.slice none 0 0) :: M))))))) (callX_own (S := fun v L' => v = .tuple #[] ∧ ∃ (p' : Nat) (ft' : Int),StepR s ft6 p6 (pMust s 41 (blP s p6)) (fun _ => True) p' ft' ∧ L' = oRr rb s p' ft' nv2 :: (RN2 ++ (oFi b8 f fa fc :: (Kf ++ (oTz b5 19 0 n2 0 (.slice (some ⟨b8,0,none⟩) 1 1) :: oTz b4 0 0 0 0 (.slice none 0 0) :: M))))) (fun w' hw' => mustR_walk wb w' rb s p6 ft6 nv2 _ 41 (by decide) hs hm6.2.1 hm6.two hQ.hrb hw') (fun v9 L9 hv9 => ?_)))
    have ev9 := hv9.1
    subst ev9
    (refine Exists.elim (hv9.2) (fun p7 hz => Exists.elim hz (fun ft7 hz => ?_)); have hm7 := hz.1; have ez := hz.2; subst ez; clear hz)
    have q7 := hm7.1
    simp (disch:=omega) only[push_cast,Nat.reduceEqDiff,decide_true,decide_false,Int.reduceEq]
    refine loadX_agg Shp.eq (List.mem_cons_of_mem _ (List.mem_append_right _ (.tail _ (List.mem_append_right _ (.head _))))) rfl rfl ?_
    simp (disch:=omega) only[push_cast,Nat.reduceEqDiff,decide_true,decide_false,Int.reduceEq]
    refine storeX_weak (L' := oTz b5 19 0 n2 0 (.slice (some ⟨b8,0,none⟩) 1 1) :: oTz b4 0 0 0 0 (.slice none 0 0) :: oRr rb s p7 ft7 nv2 :: (RN2 ++ (oFi b8 f fa fc :: (Kf ++ (M))))) (fun w hw => hw.perm (permC (fun f => by simp only [wt_append,wt_cons,wt_nil] <;> omega) : List.Perm (oRr rb s p7 ft7 nv2 :: (RN2 ++ (oFi b8 f fa fc :: (Kf ++ (oTz b5 19 0 n2 0 (.slice (some ⟨b8,0,none⟩) 1 1) :: oTz b4 0 0 0 0 (.slice none 0 0) :: M))))) (oTz b5 19 0 n2 0 (.slice (some ⟨b8,0,none⟩) 1 1) :: oTz b4 0 0 0 0 (.slice none 0 0) :: oRr rb s p7 ft7 nv2 :: (RN2 ++ (oFi b8 f fa fc :: (Kf ++ (M))))))) (storeX 1 rfl Siz.eq rfl rfl (by simp [Value.oneCell']) (by simp) ?_)
    simp (disch:=omega) only[push_cast,Nat.reduceEqDiff,decide_true,decide_false,Int.reduceEq]
    refine loadX_agg Shp.eq mem1 rfl rfl ?_
    simp (disch:=omega) only[push_cast,Nat.reduceEqDiff,decide_true,decide_false,Int.reduceEq]
    have hP7 : p7 ≤ s.length := hm7.2.1
    have hNQ := hQ.hNp
    have bd7 : 0 ≤ ft7 → p7 ≤ p7 ∧ p7 ≤ s.length ∧ ft7 = ft7 := fun _ => ⟨Nat.le_refl _,hP7,rfl⟩
    have bd6 : 0 ≤ ft6 → p6 ≤ p7 ∧ p7 ≤ s.length ∧ ft7 = ft6 := fun h => by
      have b := hm7.bad h
      have c := bd7 (by omega)
      refine ⟨?_,?_,?_⟩ <;> omega
    have bd5 : 0 ≤ ft5 → p5 ≤ p7 ∧ p7 ≤ s.length ∧ ft7 = ft5 := fun h => by
      have b := hm6.bad h
      have c := bd6 (by omega)
      refine ⟨?_,?_,?_⟩ <;> omega
    have bd4 : 0 ≤ ft3 → p3 ≤ p7 ∧ p7 ≤ s.length ∧ ft7 = ft3 := fun h => by
      have b := hm5.bad h
      have c := bd5 (by omega)
      refine ⟨?_,?_,?_⟩ <;> omega
    have bd3 : 0 ≤ ft3 → p3 ≤ p7 ∧ p7 ≤ s.length ∧ ft7 = ft3 := fun h => by
      have b := hm4.bad h
      have c := bd4 (by omega)
      refine ⟨?_,?_,?_⟩ <;> omega
    have bd2 : 0 ≤ ft2 → p2 ≤ p7 ∧ p7 ≤ s.length ∧ ft7 = ft2 := fun h => by
      have b := hm3.bad h
      have c := bd3 (by omega)
      refine ⟨?_,?_,?_⟩ <;> omega
    have bd1 : 0 ≤ ft1 → p1 ≤ p7 ∧ p7 ≤ s.length ∧ ft7 = ft1 := fun h => by
      have b := hm2.bad h
      have c := bd2 (by omega)
      refine ⟨?_,?_,?_⟩ <;> omega
    have hst : StepR s (-1) p (pBrack s (pField s d) 19 (blP s p)) (fun y => (19 : Int) = y.k ∧ (0 : Int) = y.wd ∧ (n2 : Int) = y.id ∧ (0 : Int) = y.ix ∧ [f] = y.l.map (·.1) ∧ N2 = N ++ preL (y.l.map (·.2))) p7 ft7 := by
      rw [show pBrack s (pField s d) 19 (blP s p) = (pMust s 40 (blP s p)).and fun _ r => (pNum s r).and fun n r => (pMust s 44 r).and fun _ r => (pKind s saysIdx r).and fun i r => (pMust s 44 r).and fun _ r => (pField s d r).and fun x r => (pMust s 41 r).and fun _ r => .ok ⟨19,0,n,i,[x]⟩ r from by unfold pBrack; simp only [pI19,PR.and_and,PR.and_ok]]
      refine hm1.bind (fun x1 _ g1 o1 _ => ?_) bd1
      subst g1
      refine hm2.bind (fun x2 _ g2 o2 _ => ?_) bd2
      subst g2
      refine hm3.bind (fun x3 _ g3 o3 _ => ?_) bd3
      omega
    refine fun w' hw' => ⟨_,oRr rb s p7 ft7 nv2 :: (RN2 ++ ((oFi b8 f fa fc :: Kf) ++ M)),rfl,Sy.left (A := [oTz b5 19 0 n2 0 (.slice (some ⟨b8,0,none⟩) 1 1),oTz b4 19 0 n2 0 (.slice (some ⟨b8,0,none⟩) 1 1)]) hw' (fun b hb => ?_),19,0,n2,0,[f],(some ⟨b8,0,none⟩),1,(oFi b8 f fa fc :: Kf),p7,ft7,N2,nv2,RN2,rfl,(OwS_iff _ _ _ _).2 (.inr ⟨b8,1,f.cells fa fc,f.cells fa fc,Kf,rfl,rfl,Nat.le_refl _,Nat.le_refl _,.inl rfl,by omega,rfl,rfl,OwK.single hO⟩),hN2,by omega,fun b hb => (List.mem_cons.1 hb).elim (fun h => by rw [h]; exact hb8) (hKf b),hst,rfl⟩
    simp only [List.mem_cons,List.mem_nil_iff,or_false] at hb
    rcases hb with rfl | rfl
    · exact hb5
    · exact hb4
theorem inner17 (d : Nat) (hF : FieldRR d) (hM2 : ManyRR d) : InnerRR d 17 17 := by
  intro wb w rb s p N nv RN M hQ hd
  have hs := hQ.hs
  have hp := hQ.hp
  refine enterB (args := [.pointer (some ⟨rb,0,none⟩),i64 17]) Tryz.func82 rfl Tryz.ntmps82 (congrArg Array.toList Tryz.results82) (by kernel_rfl) (by simp) hQ.hw ?_
  simp (disch:=omega) only[push_cast,Nat.reduceEqDiff]
  refine newI (fun b4 hb4 hn4 => ?_)
  simp (disch:=omega) only[push_cast,Nat.reduceEqDiff]
  refine newI (fun b5 hb5 hn5 => ?_)
  simp (disch:=omega) only[push_cast,Nat.reduceEqDiff]
  refine storeX 0 rfl Siz.eq rfl rfl (by simp [Value.oneCell']) (by simp) ?_
  simp (disch:=omega) only[push_cast,Nat.reduceEqDiff]
  refine callV en_114 (callX_weak (L' := oRr rb s p (-1) nv :: (RN ++ (oTz b5 17 0 0 0 (.slice none 0 0) :: oTz b4 0 0 0 0 (.slice none 0 0) :: M))) (fun w hw => hw.perm (permC (fun f => by simp only [wt_append,wt_cons,wt_nil] <;> omega) : List.Perm (oTz b5 17 0 0 0 (.slice none 0 0) :: oTz b4 0 0 0 0 (.slice none 0 0) :: oRr rb s p (-1) nv :: (RN ++ M)) (oRr rb s p (-1) nv :: (RN ++ (oTz b5 17 0 0 0 (.slice none 0 0) :: oTz b4 0 0 0 0 (.slice none 0 0) :: M))))) (callX_own (S := fun v L' => v = .tuple #[] ∧ ∃ (p' : Nat) (ft' : Int),StepR s (-1) p (pMust s 40 (blP s p)) (fun _ => True) p' ft' ∧ L' = oRr rb s p' ft' nv :: (RN ++ (oTz b5 17 0 0 0 (.slice none 0 0) :: oTz b4 0 0 0 0 (.slice none 0 0) :: M))) (fun w' hw' => mustR_walk wb w' rb s p (-1) nv _ 40 (by decide) hs hp (.inl rfl) hQ.hrb hw') (fun v9 L9 hv9 => ?_)))
  have ev9 := hv9.1
  subst ev9
  (refine Exists.elim (hv9.2) (fun p1 hz => Exists.elim hz (fun ft1 hz => ?_)); have hm1 := hz.1; have ez := hz.2; subst ez; clear hz)
  have q1 := hm1.1
  simp (disch:=omega) only[push_cast,Nat.reduceEqDiff,decide_true,decide_false,Int.reduceEq]
  repeat (first | (rw [V_cond]; (try simp (disch:=omega) only[push_cast,Nat.reduceEqDiff,decide_true,decide_false,Int.reduceEq])) | (rw [V_block]; (try simp (disch:=omega) only[push_cast,Nat.reduceEqDiff,decide_true,decide_false,Int.reduceEq])))
  have hMt : ∀ b ∈ oTz b5 17 0 0 0 (.slice none 0 0) :: oTz b4 0 0 0 0 (.slice none 0 0) :: M,wb.heap.size ≤ b.1 := fun b hb => by
    simp only [List.mem_cons] at hb
    rcases hb with rfl | rfl | hb
    · exact hb5
    · exact hb4
    · exact hQ.hM b hb
  have hme : s.length - blP s p1 < d := by
    have := blP_mono (s := s) (show p ≤ p1 by omega)
    omega
  have hNp9 := hQ.hNp
  refine callV en_42 (callX_weak (L' := oRr rb s p1 ft1 nv :: (RN ++ (oTz b5 17 0 0 0 (.slice none 0 0) :: oTz b4 0 0 0 0 (.slice none 0 0) :: M))) (fun w hw => hw.perm (permC (fun f => by simp only [wt_append,wt_cons,wt_nil] <;> omega) : List.Perm (oRr rb s p1 ft1 nv :: (RN ++ (oTz b5 17 0 0 0 (.slice none 0 0) :: oTz b4 0 0 0 0 (.slice none 0 0) :: M))) (oRr rb s p1 ft1 nv :: (RN ++ (oTz b5 17 0 0 0 (.slice none 0 0) :: oTz b4 0 0 0 0 (.slice none 0 0) :: M))))) (callX_own (S := ListV0 wb rb s p1 ft1 N (oTz b5 17 0 0 0 (.slice none 0 0) :: oTz b4 0 0 0 0 (.slice none 0 0) :: M) (manyP s (pField s d) true (blP s p1))) (fun w' hw' => hM2 wb w' rb s p1 ft1 N nv RN _ true ⟨hs,hm1.2.1,hm1.two,hQ.hrb,hMt,hQ.hN,by omega,hw'⟩ hme) (fun v9 L9 hv9 => ?_)))
  (refine Exists.elim (hv9) (fun l hz => Exists.elim hz (fun la hz => Exists.elim hz (fun lc hz => Exists.elim hz (fun Kl hz => Exists.elim hz (fun p2 hz => Exists.elim hz (fun ft2 hz => Exists.elim hz (fun N2 hz => Exists.elim hz (fun nv2 hz => Exists.elim hz (fun RN2 hz => ?_))))))))); have ez := hz.1; subst ez; have hO := hz.2.1; have hN2 := hz.2.2.1; have hNp2 := hz.2.2.2.1; have hKf := hz.2.2.2.2.1; have hm2 := hz.2.2.2.2.2.1; have ez := hz.2.2.2.2.2.2; subst ez; clear hz)
  have q2 := hm2.1
  simp (disch:=omega) only[push_cast,Nat.reduceEqDiff,decide_true,decide_false,Int.reduceEq]
  refine storeX_weak (L' := oTz b5 17 0 0 0 (.slice none 0 0) :: oRr rb s p2 ft2 nv2 :: (RN2 ++ (Kl ++ (oTz b4 0 0 0 0 (.slice none 0 0) :: M)))) (fun w hw => hw.perm (permC (fun f => by simp only [wt_append,wt_cons,wt_nil] <;> omega) : List.Perm (oRr rb s p2 ft2 nv2 :: (RN2 ++ (Kl ++ (oTz b5 17 0 0 0 (.slice none 0 0) :: oTz b4 0 0 0 0 (.slice none 0 0) :: M)))) (oTz b5 17 0 0 0 (.slice none 0 0) :: oRr rb s p2 ft2 nv2 :: (RN2 ++ (Kl ++ (oTz b4 0 0 0 0 (.slice none 0 0) :: M)))))) (storeX 0 rfl Siz.eq rfl rfl (by simp [Value.oneCell']) (by simp) ?_)
  simp (disch:=omega) only[push_cast,Nat.reduceEqDiff,decide_true,decide_false,Int.reduceEq]
  repeat (first | (rw [V_cond]; (try simp (disch:=omega) only[push_cast,Nat.reduceEqDiff,decide_true,decide_false,Int.reduceEq])) | (rw [V_block]; (try simp (disch:=omega) only[push_cast,Nat.reduceEqDiff,decide_true,decide_false,Int.reduceEq])))
  refine callV en_114 (callX_weak (L' := oRr rb s p2 ft2 nv2 :: (RN2 ++ (Kl ++ (oTz b5 17 0 0 0 (.slice la l.length lc) :: oTz b4 0 0 0 0 (.slice none 0 0) :: M)))) (fun w hw => hw.perm (permC (fun f => by simp only [wt_append,wt_cons,wt_nil] <;> omega) : List.Perm (oTz b5 17 0 0 0 (.slice la l.length lc) :: oRr rb s p2 ft2 nv2 :: (RN2 ++ (Kl ++ (oTz b4 0 0 0 0 (.slice none 0 0) :: M)))) (oRr rb s p2 ft2 nv2 :: (RN2 ++ (Kl ++ (oTz b5 17 0 0 0 (.slice la l.length lc) :: oTz b4 0 0 0 0 (.slice none 0 0) :: M)))))) (callX_own (S := fun v L' => v = .tuple #[] ∧ ∃ (p' : Nat) (ft' : Int),StepR s ft2 p2 (pMust s 41 (blP s p2)) (fun _ => True) p' ft' ∧ L' = oRr rb s p' ft' nv2 :: (RN2 ++ (Kl ++ (oTz b5 17 0 0 0 (.slice la l.length lc) :: oTz b4 0 0 0 0 (.slice none 0 0) :: M)))) (fun w' hw' => mustR_walk wb w' rb s p2 ft2 nv2 _ 41 (by decide) hs hm2.2.1 hm2.two hQ.hrb hw') (fun v9 L9 hv9 => ?_)))
  have ev9 := hv9.1
  subst ev9
  (refine Exists.elim (hv9.2) (fun p3 hz => Exists.elim hz (fun ft3 hz => ?_)); have hm3 := hz.1; have ez := hz.2; subst ez; clear hz)
  have q3 := hm3.1
  simp (disch:=omega) only[push_cast,Nat.reduceEqDiff,decide_true,decide_false,Int.reduceEq]
  refine loadX_agg Shp.eq (List.mem_cons_of_mem _ (List.mem_append_right _ (List.mem_append_right _ (.head _)))) rfl rfl ?_
  simp (disch:=omega) only[push_cast,Nat.reduceEqDiff,decide_true,decide_false,Int.reduceEq]
  refine storeX_weak (L' := oTz b5 17 0 0 0 (.slice la l.length lc) :: oTz b4 0 0 0 0 (.slice none 0 0) :: oRr rb s p3 ft3 nv2 :: (RN2 ++ (Kl ++ (M)))) (fun w hw => hw.perm (permC (fun f => by simp only [wt_append,wt_cons,wt_nil] <;> omega) : List.Perm (oRr rb s p3 ft3 nv2 :: (RN2 ++ (Kl ++ (oTz b5 17 0 0 0 (.slice la l.length lc) :: oTz b4 0 0 0 0 (.slice none 0 0) :: M)))) (oTz b5 17 0 0 0 (.slice la l.length lc) :: oTz b4 0 0 0 0 (.slice none 0 0) :: oRr rb s p3 ft3 nv2 :: (RN2 ++ (Kl ++ (M)))))) (storeX 1 rfl Siz.eq rfl rfl (by simp [Value.oneCell']) (by simp) ?_)
  simp (disch:=omega) only[push_cast,Nat.reduceEqDiff,decide_true,decide_false,Int.reduceEq]
  refine loadX_agg Shp.eq mem1 rfl rfl ?_
  simp (disch:=omega) only[push_cast,Nat.reduceEqDiff,decide_true,decide_false,Int.reduceEq]
  have hP3 : p3 ≤ s.length := hm3.2.1
  have hNQ := hQ.hNp
  have bd3 : 0 ≤ ft3 → p3 ≤ p3 ∧ p3 ≤ s.length ∧ ft3 = ft3 := fun _ => ⟨Nat.le_refl _,hP3,rfl⟩
  have bd2 : 0 ≤ ft2 → p2 ≤ p3 ∧ p3 ≤ s.length ∧ ft3 = ft2 := fun h => by
    have b := hm3.bad h
    have c := bd3 (by omega)
    refine ⟨?_,?_,?_⟩ <;> omega
  have bd1 : 0 ≤ ft1 → p1 ≤ p3 ∧ p3 ≤ s.length ∧ ft3 = ft1 := fun h => by
    have b := hm2.bad h
    have c := bd2 (by omega)
    refine ⟨?_,?_,?_⟩ <;> omega
  have hst : StepR s (-1) p (pBrack s (pField s d) 17 (blP s p)) (fun y => (17 : Int) = y.k ∧ (0 : Int) = y.wd ∧ (0 : Int) = y.id ∧ (0 : Int) = y.ix ∧ l = y.l.map (·.1) ∧ N2 = N ++ preL (y.l.map (·.2))) p3 ft3 := by
    rw [show pBrack s (pField s d) 17 (blP s p) = (pMust s 40 (blP s p)).and fun _ r => (manyP s (pField s d) true r).and fun l r => (pMust s 41 r).and fun _ r => .ok ⟨17,0,0,0,l⟩ r from by unfold pBrack; simp only [pI17,PR.and_and,PR.and_ok]]
    refine hm1.bind (fun x1 _ g1 o1 _ => ?_) bd1
    subst g1
    refine hm2.bind (fun x2 _ g2 o2 _ => ?_) bd2
    subst g2
    refine hm3.bind (fun x3 _ g3 o3 _ => ?_) bd3
    subst g3
    exact StepR.pure hP3 ⟨rfl,rfl,rfl,rfl,o2.1,o2.2⟩
  refine fun w' hw' => ⟨_,oRr rb s p3 ft3 nv2 :: (RN2 ++ (Kl ++ M)),rfl,Sy.left (A := [oTz b5 17 0 0 0 (.slice la l.length lc),oTz b4 17 0 0 0 (.slice la l.length lc)]) hw' (fun b hb => ?_),17,0,0,0,l,la,lc,Kl,p3,ft3,N2,nv2,RN2,rfl,hO,hN2,by omega,hKf,hst,rfl⟩
  simp only [List.mem_cons,List.mem_nil_iff,or_false] at hb
  rcases hb with rfl | rfl
  · exact hb5
  · exact hb4
theorem inner18 (d : Nat) (hF : FieldRR d) (hM2 : ManyRR d) : InnerRR d 18 18 := by
  intro wb w rb s p N nv RN M hQ hd
  have hs := hQ.hs
  have hp := hQ.hp
  refine enterB (args := [.pointer (some ⟨rb,0,none⟩),i64 18]) Tryz.func82 rfl Tryz.ntmps82 (congrArg Array.toList Tryz.results82) (by kernel_rfl) (by simp) hQ.hw ?_
  simp (disch:=omega) only[push_cast,Nat.reduceEqDiff]
  refine newI (fun b4 hb4 hn4 => ?_)
  simp (disch:=omega) only[push_cast,Nat.reduceEqDiff]
  refine newI (fun b5 hb5 hn5 => ?_)
  simp (disch:=omega) only[push_cast,Nat.reduceEqDiff]
  refine storeX 0 rfl Siz.eq rfl rfl (by simp [Value.oneCell']) (by simp) ?_
  simp (disch:=omega) only[push_cast,Nat.reduceEqDiff]
  refine callV en_114 (callX_weak (L' := oRr rb s p (-1) nv :: (RN ++ (oTz b5 18 0 0 0 (.slice none 0 0) :: oTz b4 0 0 0 0 (.slice none 0 0) :: M))) (fun w hw => hw.perm (permC (fun f => by simp only [wt_append,wt_cons,wt_nil] <;> omega) : List.Perm (oTz b5 18 0 0 0 (.slice none 0 0) :: oTz b4 0 0 0 0 (.slice none 0 0) :: oRr rb s p (-1) nv :: (RN ++ M)) (oRr rb s p (-1) nv :: (RN ++ (oTz b5 18 0 0 0 (.slice none 0 0) :: oTz b4 0 0 0 0 (.slice none 0 0) :: M))))) (callX_own (S := fun v L' => v = .tuple #[] ∧ ∃ (p' : Nat) (ft' : Int),StepR s (-1) p (pMust s 40 (blP s p)) (fun _ => True) p' ft' ∧ L' = oRr rb s p' ft' nv :: (RN ++ (oTz b5 18 0 0 0 (.slice none 0 0) :: oTz b4 0 0 0 0 (.slice none 0 0) :: M))) (fun w' hw' => mustR_walk wb w' rb s p (-1) nv _ 40 (by decide) hs hp (.inl rfl) hQ.hrb hw') (fun v9 L9 hv9 => ?_)))
  have ev9 := hv9.1
  subst ev9
  (refine Exists.elim (hv9.2) (fun p1 hz => Exists.elim hz (fun ft1 hz => ?_)); have hm1 := hz.1; have ez := hz.2; subst ez; clear hz)
  have q1 := hm1.1
  simp (disch:=omega) only[push_cast,Nat.reduceEqDiff,decide_true,decide_false,Int.reduceEq]
  repeat (first | (rw [V_cond]; (try simp (disch:=omega) only[push_cast,Nat.reduceEqDiff,decide_true,decide_false,Int.reduceEq])) | (rw [V_block]; (try simp (disch:=omega) only[push_cast,Nat.reduceEqDiff,decide_true,decide_false,Int.reduceEq])))
  have hMt : ∀ b ∈ oTz b5 18 0 0 0 (.slice none 0 0) :: oTz b4 0 0 0 0 (.slice none 0 0) :: M,wb.heap.size ≤ b.1 := fun b hb => by
    simp only [List.mem_cons] at hb
    rcases hb with rfl | rfl | hb
    · exact hb5
    · exact hb4
    · exact hQ.hM b hb
  have hme : s.length - blP s p1 < d := by
    have := blP_mono (s := s) (show p ≤ p1 by omega)
    omega
  have hNp9 := hQ.hNp
  refine callV en_42 (callX_weak (L' := oRr rb s p1 ft1 nv :: (RN ++ (oTz b5 18 0 0 0 (.slice none 0 0) :: oTz b4 0 0 0 0 (.slice none 0 0) :: M))) (fun w hw => hw.perm (permC (fun f => by simp only [wt_append,wt_cons,wt_nil] <;> omega) : List.Perm (oRr rb s p1 ft1 nv :: (RN ++ (oTz b5 18 0 0 0 (.slice none 0 0) :: oTz b4 0 0 0 0 (.slice none 0 0) :: M))) (oRr rb s p1 ft1 nv :: (RN ++ (oTz b5 18 0 0 0 (.slice none 0 0) :: oTz b4 0 0 0 0 (.slice none 0 0) :: M))))) (callX_own (S := ListV0 wb rb s p1 ft1 N (oTz b5 18 0 0 0 (.slice none 0 0) :: oTz b4 0 0 0 0 (.slice none 0 0) :: M) (manyP s (pField s d) false (blP s p1))) (fun w' hw' => hM2 wb w' rb s p1 ft1 N nv RN _ false ⟨hs,hm1.2.1,hm1.two,hQ.hrb,hMt,hQ.hN,by omega,hw'⟩ hme) (fun v9 L9 hv9 => ?_)))
  (refine Exists.elim (hv9) (fun l hz => Exists.elim hz (fun la hz => Exists.elim hz (fun lc hz => Exists.elim hz (fun Kl hz => Exists.elim hz (fun p2 hz => Exists.elim hz (fun ft2 hz => Exists.elim hz (fun N2 hz => Exists.elim hz (fun nv2 hz => Exists.elim hz (fun RN2 hz => ?_))))))))); have ez := hz.1; subst ez; have hO := hz.2.1; have hN2 := hz.2.2.1; have hNp2 := hz.2.2.2.1; have hKf := hz.2.2.2.2.1; have hm2 := hz.2.2.2.2.2.1; have ez := hz.2.2.2.2.2.2; subst ez; clear hz)
  have q2 := hm2.1
  simp (disch:=omega) only[push_cast,Nat.reduceEqDiff,decide_true,decide_false,Int.reduceEq]
  refine storeX_weak (L' := oTz b5 18 0 0 0 (.slice none 0 0) :: oRr rb s p2 ft2 nv2 :: (RN2 ++ (Kl ++ (oTz b4 0 0 0 0 (.slice none 0 0) :: M)))) (fun w hw => hw.perm (permC (fun f => by simp only [wt_append,wt_cons,wt_nil] <;> omega) : List.Perm (oRr rb s p2 ft2 nv2 :: (RN2 ++ (Kl ++ (oTz b5 18 0 0 0 (.slice none 0 0) :: oTz b4 0 0 0 0 (.slice none 0 0) :: M)))) (oTz b5 18 0 0 0 (.slice none 0 0) :: oRr rb s p2 ft2 nv2 :: (RN2 ++ (Kl ++ (oTz b4 0 0 0 0 (.slice none 0 0) :: M)))))) (storeX 0 rfl Siz.eq rfl rfl (by simp [Value.oneCell']) (by simp) ?_)
  simp (disch:=omega) only[push_cast,Nat.reduceEqDiff,decide_true,decide_false,Int.reduceEq]
  repeat (first | (rw [V_cond]; (try simp (disch:=omega) only[push_cast,Nat.reduceEqDiff,decide_true,decide_false,Int.reduceEq])) | (rw [V_block]; (try simp (disch:=omega) only[push_cast,Nat.reduceEqDiff,decide_true,decide_false,Int.reduceEq])))
  refine callV en_114 (callX_weak (L' := oRr rb s p2 ft2 nv2 :: (RN2 ++ (Kl ++ (oTz b5 18 0 0 0 (.slice la l.length lc) :: oTz b4 0 0 0 0 (.slice none 0 0) :: M)))) (fun w hw => hw.perm (permC (fun f => by simp only [wt_append,wt_cons,wt_nil] <;> omega) : List.Perm (oTz b5 18 0 0 0 (.slice la l.length lc) :: oRr rb s p2 ft2 nv2 :: (RN2 ++ (Kl ++ (oTz b4 0 0 0 0 (.slice none 0 0) :: M)))) (oRr rb s p2 ft2 nv2 :: (RN2 ++ (Kl ++ (oTz b5 18 0 0 0 (.slice la l.length lc) :: oTz b4 0 0 0 0 (.slice none 0 0) :: M)))))) (callX_own (S := fun v L' => v = .tuple #[] ∧ ∃ (p' : Nat) (ft' : Int),StepR s ft2 p2 (pMust s 41 (blP s p2)) (fun _ => True) p' ft' ∧ L' = oRr rb s p' ft' nv2 :: (RN2 ++ (Kl ++ (oTz b5 18 0 0 0 (.slice la l.length lc) :: oTz b4 0 0 0 0 (.slice none 0 0) :: M)))) (fun w' hw' => mustR_walk wb w' rb s p2 ft2 nv2 _ 41 (by decide) hs hm2.2.1 hm2.two hQ.hrb hw') (fun v9 L9 hv9 => ?_)))
  have ev9 := hv9.1
  subst ev9
  (refine Exists.elim (hv9.2) (fun p3 hz => Exists.elim hz (fun ft3 hz => ?_)); have hm3 := hz.1; have ez := hz.2; subst ez; clear hz)
  have q3 := hm3.1
  simp (disch:=omega) only[push_cast,Nat.reduceEqDiff,decide_true,decide_false,Int.reduceEq]
  refine loadX_agg Shp.eq (List.mem_cons_of_mem _ (List.mem_append_right _ (List.mem_append_right _ (.head _)))) rfl rfl ?_
  simp (disch:=omega) only[push_cast,Nat.reduceEqDiff,decide_true,decide_false,Int.reduceEq]
  refine storeX_weak (L' := oTz b5 18 0 0 0 (.slice la l.length lc) :: oTz b4 0 0 0 0 (.slice none 0 0) :: oRr rb s p3 ft3 nv2 :: (RN2 ++ (Kl ++ (M)))) (fun w hw => hw.perm (permC (fun f => by simp only [wt_append,wt_cons,wt_nil] <;> omega) : List.Perm (oRr rb s p3 ft3 nv2 :: (RN2 ++ (Kl ++ (oTz b5 18 0 0 0 (.slice la l.length lc) :: oTz b4 0 0 0 0 (.slice none 0 0) :: M)))) (oTz b5 18 0 0 0 (.slice la l.length lc) :: oTz b4 0 0 0 0 (.slice none 0 0) :: oRr rb s p3 ft3 nv2 :: (RN2 ++ (Kl ++ (M)))))) (storeX 1 rfl Siz.eq rfl rfl (by simp [Value.oneCell']) (by simp) ?_)
  simp (disch:=omega) only[push_cast,Nat.reduceEqDiff,decide_true,decide_false,Int.reduceEq]
  refine loadX_agg Shp.eq mem1 rfl rfl ?_
  simp (disch:=omega) only[push_cast,Nat.reduceEqDiff,decide_true,decide_false,Int.reduceEq]
  have hP3 : p3 ≤ s.length := hm3.2.1
  have hNQ := hQ.hNp
  have bd3 : 0 ≤ ft3 → p3 ≤ p3 ∧ p3 ≤ s.length ∧ ft3 = ft3 := fun _ => ⟨Nat.le_refl _,hP3,rfl⟩
  have bd2 : 0 ≤ ft2 → p2 ≤ p3 ∧ p3 ≤ s.length ∧ ft3 = ft2 := fun h => by
    have b := hm3.bad h
    have c := bd3 (by omega)
    refine ⟨?_,?_,?_⟩ <;> omega
  have bd1 : 0 ≤ ft1 → p1 ≤ p3 ∧ p3 ≤ s.length ∧ ft3 = ft1 := fun h => by
    have b := hm2.bad h
    have c := bd2 (by omega)
    refine ⟨?_,?_,?_⟩ <;> omega
  have hst : StepR s (-1) p (pBrack s (pField s d) 18 (blP s p)) (fun y => (18 : Int) = y.k ∧ (0 : Int) = y.wd ∧ (0 : Int) = y.id ∧ (0 : Int) = y.ix ∧ l = y.l.map (·.1) ∧ N2 = N ++ preL (y.l.map (·.2))) p3 ft3 := by
    rw [show pBrack s (pField s d) 18 (blP s p) = (pMust s 40 (blP s p)).and fun _ r => (manyP s (pField s d) false r).and fun l r => (pMust s 41 r).and fun _ r => .ok ⟨18,0,0,0,l⟩ r from by unfold pBrack; simp only [pI18,PR.and_and,PR.and_ok]]
    refine hm1.bind (fun x1 _ g1 o1 _ => ?_) bd1
    subst g1
    refine hm2.bind (fun x2 _ g2 o2 _ => ?_) bd2
    subst g2
    refine hm3.bind (fun x3 _ g3 o3 _ => ?_) bd3
    subst g3
    exact StepR.pure hP3 ⟨rfl,rfl,rfl,rfl,o2.1,o2.2⟩
  refine fun w' hw' => ⟨_,oRr rb s p3 ft3 nv2 :: (RN2 ++ (Kl ++ M)),rfl,Sy.left (A := [oTz b5 18 0 0 0 (.slice la l.length lc),oTz b4 18 0 0 0 (.slice la l.length lc)]) hw' (fun b hb => ?_),18,0,0,0,l,la,lc,Kl,p3,ft3,N2,nv2,RN2,rfl,hO,hN2,by omega,hKf,hst,rfl⟩
  simp only [List.mem_cons,List.mem_nil_iff,or_false] at hb
  rcases hb with rfl | rfl
  · exact hb5
  · exact hb4
end Go.Proofs.YtdmdgkpjjpijdaaGreatDoor
