/- YtdmdgkpjjpijdaaGreatDoor: walks, part 170: a reader: types. -/
import Derived.Test.YtdmdgkpjjpijdaaGreatDoorW169
namespace Go.Proofs.YtdmdgkpjjpijdaaGreatDoor
open Go Go.K
set_option maxRecDepth 100000
set_option linter.unusedVariables false
set_option linter.unusedSimpArgs false
set_option maxHeartbeats 4000000
abbrev oTp (b : Nat) (k wd id ix : Int) (a : Option Addr) (n c : Nat) : Nat × Obj := (b,Obj.cells #[i64 k,i64 wd,i64 id,i64 ix,.slice a n c] 35 (0,0))
structure Ty0 (w0 : World) (rb : Nat) (s : List UInt8) (M : Own) (b2 b4 k q : Nat) (wb : World) (e : Env) (ds : List Deferred) (L : Own) : Prop where
  hw : wb = w0
  hds : ds = []
  h0 : e 0 = .pointer (some ⟨rb,0,none⟩)
  h2 : e 2 = .pointer (some ⟨b2,0,none⟩)
  h4 : e 4 = .pointer (some ⟨b4,0,none⟩)
  h5 : e 5 = .slice none 0 0
  hk : ¬ k < 14
  o : ∃ (p2 q2 : Nat),pMust s 40 q = .ok () q2 ∧ blP s p2 = q2 ∧ p2 ≤ s.length ∧ L = oRd rb s p2 :: oTp b4 k 0 0 0 none 0 0 :: oTp b2 0 0 0 0 none 0 0 :: M
structure TyI (w0 : World) (rb : Nat) (s : List UInt8) (M : Own) (b2 b4 : Nat) (d k q : Nat) (wb : World) (e : Env) (ds : List Deferred) (L : Own) : Prop where
  hw : wb = w0
  hds : ds = []
  h0 : e 0 = .pointer (some ⟨rb,0,none⟩)
  h2 : e 2 = .pointer (some ⟨b2,0,none⟩)
  h4 : e 4 = .pointer (some ⟨b4,0,none⟩)
  o : ∃ (t : Ty) (p3 : Nat) (a : Option Addr) (c : Nat) (a2 : Option Addr) (c2 : Nat) (K1 K2 : Own),pInner s (pField s d) k q = .ok t (blP s p3) ∧ p3 ≤ s.length ∧ e 5 = .slice a2 t.l.length c2 ∧ OwS (t.l.map (·.1)) K1 a c ∧ OwPS (t.l.map (·.2)) K2 a2 c2 ∧ (∀ b ∈ K1 ++ K2,w0.heap.size ≤ b.1) ∧
    L = oRd rb s p3 :: oTp b4 t.k t.wd t.id t.ix a t.l.length c :: oTp b2 0 0 0 0 none 0 0 :: ((K1 ++ K2) ++ M)
theorem _root_.Go.K.Sy.drop13 {wb w : World} {a x b : Nat × Obj} {M : Own} (h : Sy wb (a :: x :: b :: M) w) (ha : wb.heap.size ≤ a.1) (hb : wb.heap.size ≤ b.1) : Sy wb (x :: M) w := (h.left (A := [a]) (by simpa using ha)).mid [x] [b] (by simpa using hb)
theorem ows_nil : OwS [] [] none 0 := (OwS_iff _ _ _ _).2 (.inl ⟨rfl,rfl,rfl,rfl⟩)
theorem owps_nil : OwPS [] [] none 0 := (OwPS_iff _ _ _ _).2 (.inl ⟨rfl,rfl,rfl,rfl⟩)
theorem pInner_14 (s : List UInt8) (F : Nat → PR Fz) (q : Nat) : pInner s F 14 q = (pNum s q).and fun n r => .ok ⟨14,n,0,0,[]⟩ r := rfl
theorem pInner_15 (s : List UInt8) (F : Nat → PR Fz) (q : Nat) : pInner s F 15 q = (one F q).and fun l r => .ok ⟨15,0,0,0,l⟩ r := rfl
theorem pInner_20 (s : List UInt8) (F : Nat → PR Fz) (q : Nat) : pInner s F 20 q = (one F q).and fun l r => .ok ⟨20,0,0,0,l⟩ r := rfl
theorem pInner_18 (s : List UInt8) (F : Nat → PR Fz) (q : Nat) : pInner s F 18 q = (pMany s F (s.length + 1) q).and fun l r => .ok ⟨18,0,0,0,l⟩ r := rfl
theorem pInner_17 (s : List UInt8) (F : Nat → PR Fz) (q : Nat) : pInner s F 17 q = if s[q]? = some 41 then .ok ⟨17,0,0,0,[]⟩ q else (pMany s F (s.length + 1) q).and fun l r => .ok ⟨17,0,0,0,l⟩ r := rfl
theorem pInner_16 (s : List UInt8) (F : Nat → PR Fz) (q : Nat) : pInner s F 16 q = (pNum s q).and fun n r => (pMust s 44 r).and fun _ r => (one F r).and fun l r => .ok ⟨16,n,0,0,l⟩ r := rfl
theorem pInner_19 (s : List UInt8) (F : Nat → PR Fz) (q : Nat) : pInner s F 19 q = (pNum s q).and fun n r => (pMust s 44 r).and fun _ r => (pKind s saysIdx r).and fun i r => (pMust s 44 r).and fun _ r => (one F r).and fun l r => .ok ⟨19,0,n,i,l⟩ r := rfl
theorem typeR_step (d : Nat) (hO : OneOK d) (hMa : ManyOK d) : TypeOK d := by
  intro wb w rb s p M hQ hd
  have hs := hQ.hs
  have hrb := hQ.hrb
  refine enterB (args := [.pointer (some ⟨rb,0,none⟩)]) Tryz.func78 rfl Tryz.ntmps78 (congrArg Array.toList Tryz.results78) (by kernel_rfl) (by simp) hQ.hw ?_
  simp (disch:=omega) only[push_cast,Nat.reduceEqDiff]
  refine newI (fun b2 hb2 hn2 => ?_)
  simp (disch:=omega) only[push_cast,Nat.reduceEqDiff]
  have hM1 : ∀ o : Obj,∀ b ∈ (b2,o) :: M,wb.heap.size ≤ b.1 := fun o b hb => by
    rcases List.mem_cons.1 hb with rfl | hb
    · exact hb2
    · exact hQ.hM b hb
  refine callV en_108 (callX_pr (fun w' hw' => kind_walk wb w' hQ.says rb s p (oTp b2 0 0 0 0 none 0 0 :: M) 109 (fun _ => true) en_109 known_lets hs hQ.hp hrb (hM1 _) (hw'.perm (List.Perm.swap _ _ _))) (fun k q v p1 K hr hq hp1 hS hK => ?_) (fun q K hr hK => ?_))
  rotate_left
  · simp (disch:=omega) only[push_cast,Nat.reduceEqDiff]
    refine fun w' hw' => PRet.fall (K ++ [oTp b2 0 0 0 0 none 0 0]) (by rw [pTyped,hr,PR.and_no]) (fun b hb => ?_) (by simpa only [List.append_assoc,List.singleton_append] using hw')
    rcases List.mem_append.1 hb with hb | hb
    · exact hK b hb
    · rw [List.mem_singleton.1 hb]; exact hb2
  have e1 := hS.1
  have e2 := hS.2
  subst e1
  subst e2
  have hble : blP s p ≤ s.length := runP_le hQ.hp
  have g1 := pKind_le hble hr
  have hkk : 1 ≤ k ∧ k ≤ 20 := by
    obtain ⟨x,r,h1,h2⟩ := PR.and_eq_ok hr
    split at h2
    · rename_i h3
      cases h2
      have := kindW_word h3.1
      omega
    · cases h2
  simp (disch:=omega) only[push_cast,Nat.reduceEqDiff]
  refine newI (fun b4 hb4 hn4 => ?_)
  simp (disch:=omega) only[push_cast,Nat.reduceEqDiff]
  refine storeX 0 rfl Siz.eq rfl rfl (by simp [Value.oneCell']) (by simp) ?_
  simp (disch:=omega) only[push_cast,Nat.reduceEqDiff]
  refine ldOne Shp.eq mem0 rfl ?_
  simp (disch:=omega) only[push_cast,Nat.reduceEqDiff]
  have hX : ∀ (o4 o2 : Obj),∀ b ∈ (b4,o4) :: (b2,o2) :: M,wb.heap.size ≤ b.1 := fun o4 o2 b hb => by
    rcases List.mem_cons.1 hb with rfl | hb
    · exact hb4
    · exact hM1 _ b hb
  have hpre : ¬ k < 14 → ∀ r,(pMust s 40 q) = r → pTyped s (pField s d) (blP s p) = r.and fun _ r => (pInner s (pField s d) k r).and fun t r => (pMust s 41 r).and fun _ r => .ok t r := fun h r hr2 => by
    rw [pTyped,hr,PR.and_ok,if_neg h,hr2]
  refine cutV (Ty0 wb rb s M b2 b4 k q) ?_ ?_
  · rw [V_block]
    simp (disch:=omega) only[push_cast,Nat.reduceEqDiff]
    by_cases hk14 : k < 14
    · repeat ((try rw [V_cond]); (try simp (disch:=omega) only[push_cast,Nat.reduceEqDiff]); (refine condX_d (fun h9 => ?_) (fun h9 => ?_) <;> first | (exfalso; first | omega | exact h9 trivial) | ((try clear h9); try simp (disch:=omega) only[push_cast,Nat.reduceEqDiff])))
      refine loadX_agg Shp.eq mem0 rfl rfl ?_
      simp (disch:=omega) only[push_cast,Nat.reduceEqDiff]
      refine storeX 2 rfl Siz.eq rfl rfl (by simp [Value.oneCell']) (by simp) ?_
      simp (disch:=omega) only[push_cast,Nat.reduceEqDiff]
      refine loadX_agg Shp.eq mem2 rfl rfl ?_
      simp (disch:=omega) only[push_cast,Nat.reduceEqDiff]
      refine fun w' hw' => PRet.leaf (S := fun x _ v K => TypeV x v K) _ p1 [] (x := ⟨k,0,0,0,[]⟩) (q := q) (by rw [pTyped,hr,PR.and_ok,if_pos hk14]) hq hp1 ⟨none,0,none,0,[],[],rfl,rfl,ows_nil,owps_nil⟩ (by simp) ?_
      exact hw'.drop13 hb4 hb2
    have hkc : k = 14 ∨ k = 15 ∨ k = 16 ∨ k = 17 ∨ k = 18 ∨ k = 19 ∨ k = 20 := by omega
    rcases hkc with hk | hk | hk | hk | hk | hk | hk
    all_goals
      repeat ((try rw [V_cond]); (try simp (disch:=omega) only[push_cast,Nat.reduceEqDiff]); (refine condX_d (fun h9 => ?_) (fun h9 => ?_) <;> first | (exfalso; first | omega | exact h9 trivial) | ((try clear h9); try simp (disch:=omega) only[push_cast,Nat.reduceEqDiff])))
      refine callV en_101 (callX_pr (fun w' hw' => must_walk wb w' rb s p1 (oTp b4 k 0 0 0 none 0 0 :: oTp b2 0 0 0 0 none 0 0 :: M) 40 40 rfl hs hp1 hrb (hw'.perm (List.Perm.swap _ _ _))) (fun u q2 v p2 K hr2 hq2 hp2 hS2 hK2 => ?_) (fun q2 K hr2 hK2 => ?_))
      · have e1 := hS2.1
        have e2 := hS2.2
        subst e1
        subst e2
        simp (disch:=omega) only[push_cast,Nat.reduceEqDiff]
        exact ⟨rfl,rfl,rfl,rfl,rfl,rfl,hk14,p2,q2,by rw [← hq]; exact hr2,hq2,hp2,rfl⟩
      · simp (disch:=omega) only[push_cast,Nat.reduceEqDiff]
        refine fun w' hw' => PRet.fall (K ++ [oTp b4 k 0 0 0 none 0 0,oTp b2 0 0 0 0 none 0 0]) (by rw [hpre hk14 (.no q2) (by rw [← hq]; exact hr2),PR.and_no]) (fun b hb => ?_) (by simpa only [List.append_assoc,List.cons_append,List.nil_append] using hw')
        rcases List.mem_append.1 hb with hb | hb
        · exact hK2 b hb
        · simp only [List.mem_cons,List.mem_nil_iff,or_false] at hb
          rcases hb with rfl | rfl
          · exact hb4
          · exact hb2
  rintro wb e ds L ⟨rfl,rfl,h0,h2,h4,h5,hk14,p2,q2,hr2,hq2,hp2,rfl⟩
  have hpm := hpre hk14 (.ok () q2) hr2
  rw [PR.and_ok] at hpm
  have g2 := pSign_le (pMust_ok hr2)
  have hfall : ∀ (q3 : Nat) (K : Own) (o4 o2 : Obj),(∀ b ∈ K,wb.heap.size ≤ b.1) → pInner s (pField s d) k q2 = .no q3 → ∀ w',Sy wb (K ++ ((b4,o4) :: (b2,o2) :: M)) w' → PRet wb rb s M (pTyped s (pField s d) (blP s p)) (fun x _ v K => TypeV x v K) (.panicked [faultE q3]) w' := fun q3 K o4 o2 hK3 h3 w' hw' => by
    refine PRet.fall (K ++ [(b4,o4),(b2,o2)]) (by rw [hpm,h3,PR.and_no]) (fun b hb => ?_) (by simpa only [List.append_assoc,List.cons_append,List.nil_append] using hw')
    rcases List.mem_append.1 hb with hb | hb
    · exact hK3 b hb
    · simp only [List.mem_cons,List.mem_nil_iff,or_false] at hb
      rcases hb with rfl | rfl
      · exact hb4
      · exact hb2
  simp (disch:=omega) only[push_cast,Nat.reduceEqDiff,h0,h2,h4,h5]
  refine ldOne Shp.eq mem1 rfl ?_
  simp (disch:=omega) only[push_cast,Nat.reduceEqDiff,h0,h2,h4,h5]
  refine cutV (TyI wb rb s M b2 b4 d k q2) ?_ ?_
  · rw [V_block]
    simp (disch:=omega) only[push_cast,Nat.reduceEqDiff,h0,h2,h4,h5]
    have hkc : k = 14 ∨ k = 15 ∨ k = 16 ∨ k = 17 ∨ k = 18 ∨ k = 19 ∨ k = 20 := by omega
    rcases hkc with hk | hk | hk | hk | hk | hk | hk
    · subst hk
      repeat ((try rw [V_cond]); (try simp (disch:=omega) only[push_cast,Nat.reduceEqDiff,h0,h2,h4,h5]); (refine condX_d (fun h9 => ?_) (fun h9 => ?_) <;> first | (exfalso; first | omega | exact h9 trivial) | ((try clear h9); try simp (disch:=omega) only[push_cast,Nat.reduceEqDiff,h0,h2,h4,h5])))
      refine callV en_110 (callX_pr (fun w' hw' => number_walk wb w' hQ.lib rb s p2 _ hs hp2 hrb (hX _ _) hw') (fun n q3 v p3 K hrq3 hqq3 hpq3 hSq3 hKq3 => ?_) (fun q3 K hrq3 hKq3 => ?_))
      rotate_left
      · simp (disch:=omega) only[push_cast,Nat.reduceEqDiff,h0,h2,h4,h5]
        exact hfall q3 K _ _ hKq3 (by rw [pInner_14,← hq2,hrq3]; rfl)
      have e1 := hSq3.1
      have e2 := hSq3.2
      subst e1
      subst e2
      simp (disch:=omega) only[push_cast,Nat.reduceEqDiff,h0,h2,h4,h5]
      refine storeX 1 rfl Siz.eq rfl rfl (by simp [Value.oneCell']) (by simp) ?_
      simp (disch:=omega) only[push_cast,Nat.reduceEqDiff,h0,h2,h4,h5]
      exact ⟨rfl,rfl,h0,h2,h4,⟨14,n,0,0,[]⟩,p3,none,0,none,0,[],[],by rw [pInner_14,← hq2,hrq3,PR.and_ok,hqq3],hpq3,h5,ows_nil,owps_nil,by simp,rfl⟩
    · subst hk
      repeat ((try rw [V_cond]); (try simp (disch:=omega) only[push_cast,Nat.reduceEqDiff,h0,h2,h4,h5]); (refine condX_d (fun h9 => ?_) (fun h9 => ?_) <;> first | (exfalso; first | omega | exact h9 trivial) | ((try clear h9); try simp (disch:=omega) only[push_cast,Nat.reduceEqDiff,h0,h2,h4,h5])))
      refine callV en_111 (callX_pr (fun w' hw' => hO wb w' rb s p2 _ ⟨hs,hQ.says,hQ.lib,hp2,hrb,hX _ _,hw'⟩ (by have := runP_ge blankB s p2; unfold blP at *; omega)) (fun l q3 v p3 K hrq3 hqq3 hpq3 hSq3 hKq3 => ?_) (fun q3 K hrq3 hKq3 => ?_))
      rotate_left
      · simp (disch:=omega) only[push_cast,Nat.reduceEqDiff,h0,h2,h4,h5]
        exact hfall q3 K _ _ hKq3 (by rw [pInner_15,← hq2,hrq3]; rfl)
      (refine Exists.elim (hSq3) (fun a hz => Exists.elim hz (fun c hz => Exists.elim hz (fun a2 hz => Exists.elim hz (fun c2 hz => Exists.elim hz (fun Ka hz => Exists.elim hz (fun Kb hz => ?_)))))); have ez := hz.1; subst ez; have ez := hz.2.1; subst ez; have hO1 := hz.2.2.1; have hO2 := hz.2.2.2; clear hz)
      simp (disch:=omega) only[push_cast,Nat.reduceEqDiff,h0,h2,h4,h5]
      refine storeX_weak (L' := oRd rb s p3 :: oTp b4 15 0 0 0 none 0 0 :: oTp b2 0 0 0 0 none 0 0 :: ((Ka ++ Kb) ++ M)) (fun w hw => hw.perm (?_ : List.Perm (oRd rb s p3 :: ((Ka ++ Kb) ++ (oTp b4 15 0 0 0 none 0 0 :: oTp b2 0 0 0 0 none 0 0 :: M))) _)) (storeX 1 rfl Siz.eq rfl rfl (by simp [Value.oneCell']) (by simp) ?_)
      · exact permC fun f => by simp only [wt_append,wt_cons,wt_nil]; omega
      simp (disch:=omega) only[push_cast,Nat.reduceEqDiff,h0,h2,h4,h5]
      exact ⟨rfl,rfl,h0,h2,h4,⟨15,0,0,0,l⟩,p3,a,c,a2,c2,Ka,Kb,by rw [pInner_15,← hq2,hrq3,PR.and_ok,hqq3],hpq3,rfl,hO1,hO2,hKq3,rfl⟩
    · subst hk
      repeat ((try rw [V_cond]); (try simp (disch:=omega) only[push_cast,Nat.reduceEqDiff,h0,h2,h4,h5]); (refine condX_d (fun h9 => ?_) (fun h9 => ?_) <;> first | (exfalso; first | omega | exact h9 trivial) | ((try clear h9); try simp (disch:=omega) only[push_cast,Nat.reduceEqDiff,h0,h2,h4,h5])))
      refine callV en_110 (callX_pr (fun w' hw' => number_walk wb w' hQ.lib rb s p2 _ hs hp2 hrb (hX _ _) hw') (fun n q3 v p3 K hrq3 hqq3 hpq3 hSq3 hKq3 => ?_) (fun q3 K hrq3 hKq3 => ?_))
      rotate_left
      · simp (disch:=omega) only[push_cast,Nat.reduceEqDiff,h0,h2,h4,h5]
        exact hfall q3 K _ _ hKq3 (by rw [pInner_16,← hq2,hrq3]; rfl)
      have e1 := hSq3.1
      have e2 := hSq3.2
      subst e1
      subst e2
      simp (disch:=omega) only[push_cast,Nat.reduceEqDiff,h0,h2,h4,h5]
      refine storeX 1 rfl Siz.eq rfl rfl (by simp [Value.oneCell']) (by simp) ?_
      simp (disch:=omega) only[push_cast,Nat.reduceEqDiff,h0,h2,h4,h5]
      have n1 := pNum_le (by rw [hq2]; exact g2.2.1) hrq3
      refine callV en_101 (callX_pr (fun w' hw' => must_walk wb w' rb s p3 _ 44 44 rfl hs hpq3 hrb hw') (fun _ q4 v p4 K hrq4 hqq4 hpq4 hSq4 hKq4 => ?_) (fun q4 K hrq4 hKq4 => ?_))
      rotate_left
      · simp (disch:=omega) only[push_cast,Nat.reduceEqDiff,h0,h2,h4,h5]
        exact hfall q4 K _ _ hKq4 (by rw [pInner_16,← hq2,hrq3,PR.and_ok,← hqq3,hrq4]; rfl)
      have e1 := hSq4.1
      have e2 := hSq4.2
      subst e1
      subst e2
      simp (disch:=omega) only[push_cast,Nat.reduceEqDiff,h0,h2,h4,h5]
      have n2 := pSign_le (pMust_ok hrq4)
      refine callV en_111 (callX_pr (fun w' hw' => hO wb w' rb s p4 _ ⟨hs,hQ.says,hQ.lib,hpq4,hrb,hX _ _,hw'⟩ (by omega)) (fun l q5 v p5 K hrq5 hqq5 hpq5 hSq5 hKq5 => ?_) (fun q5 K hrq5 hKq5 => ?_))
      rotate_left
      · simp (disch:=omega) only[push_cast,Nat.reduceEqDiff,h0,h2,h4,h5]
        exact hfall q5 K _ _ hKq5 (by rw [pInner_16,← hq2,hrq3,PR.and_ok,← hqq3,hrq4,PR.and_ok,← hqq4,hrq5]; rfl)
      (refine Exists.elim (hSq5) (fun a hz => Exists.elim hz (fun c hz => Exists.elim hz (fun a2 hz => Exists.elim hz (fun c2 hz => Exists.elim hz (fun Ka hz => Exists.elim hz (fun Kb hz => ?_)))))); have ez := hz.1; subst ez; have ez := hz.2.1; subst ez; have hO1 := hz.2.2.1; have hO2 := hz.2.2.2; clear hz)
      simp (disch:=omega) only[push_cast,Nat.reduceEqDiff,h0,h2,h4,h5]
      refine storeX_weak (L' := oRd rb s p5 :: oTp b4 16 n 0 0 none 0 0 :: oTp b2 0 0 0 0 none 0 0 :: ((Ka ++ Kb) ++ M)) (fun w hw => hw.perm (?_ : List.Perm (oRd rb s p5 :: ((Ka ++ Kb) ++ (oTp b4 16 n 0 0 none 0 0 :: oTp b2 0 0 0 0 none 0 0 :: M))) _)) (storeX 1 rfl Siz.eq rfl rfl (by simp [Value.oneCell']) (by simp) ?_)
      · exact permC fun f => by simp only [wt_append,wt_cons,wt_nil]; omega
      simp (disch:=omega) only[push_cast,Nat.reduceEqDiff,h0,h2,h4,h5]
      exact ⟨rfl,rfl,h0,h2,h4,⟨16,n,0,0,l⟩,p5,a,c,a2,c2,Ka,Kb,by rw [pInner_16,← hq2,hrq3,PR.and_ok,← hqq3,hrq4,PR.and_ok,← hqq4,hrq5,PR.and_ok,hqq5],hpq5,rfl,hO1,hO2,hKq5,rfl⟩
    · subst hk
      repeat ((try rw [V_cond]); (try simp (disch:=omega) only[push_cast,Nat.reduceEqDiff,h0,h2,h4,h5]); (refine condX_d (fun h9 => ?_) (fun h9 => ?_) <;> first | (exfalso; first | omega | exact h9 trivial) | ((try clear h9); try simp (disch:=omega) only[push_cast,Nat.reduceEqDiff,h0,h2,h4,h5])))
      refine callV en_35 (callX_base (fun w' hw' => is_walk wb w' rb s p2 _ 41 41 rfl hs hp2 hw') ?_)
      rintro e' w' ⟨rfl,q1⟩
      refine ⟨_,_,rfl,q1,?_⟩
      clear q1
      simp (disch:=omega) only[push_cast,Nat.reduceEqDiff,h0,h2,h4,h5]
      rw [V_cond]
      simp (disch:=omega) only[push_cast,Nat.reduceEqDiff,h0,h2,h4,h5]
      have hle2 : blP s p2 ≤ s.length := runP_le hp2
      have hidem : blP s (blP s p2) = blP s p2 := runP_idem _ _ _
      refine condX_b (fun hb => ?_) (fun hb => ?_)
      · have h41 : s[blP s p2]? ≠ some 41 := by simpa using hb
        simp (disch:=omega) only[push_cast,Nat.reduceEqDiff,h0,h2,h4,h5]
        refine callV en_36 (callX_pr (fun w' hw' => hMa wb w' rb s (blP s p2) _ ⟨hs,hQ.says,hQ.lib,hle2,hrb,hX _ _,hw'⟩ (by rw [hidem]; omega)) (fun l q3 v p3 K hrq3 hqq3 hpq3 hSq3 hKq3 => ?_) (fun q3 K hrq3 hKq3 => ?_))
        rotate_left
        · simp (disch:=omega) only[push_cast,Nat.reduceEqDiff,h0,h2,h4,h5]
          exact hfall q3 K _ _ hKq3 (by rw [pInner_17,← hq2,if_neg h41,← hidem,hrq3]; rfl)
        (refine Exists.elim (hSq3) (fun a hz => Exists.elim hz (fun c hz => Exists.elim hz (fun a2 hz => Exists.elim hz (fun c2 hz => Exists.elim hz (fun Ka hz => Exists.elim hz (fun Kb hz => ?_)))))); have ez := hz.1; subst ez; have ez := hz.2.1; subst ez; have hO1 := hz.2.2.1; have hO2 := hz.2.2.2; clear hz)
        simp (disch:=omega) only[push_cast,Nat.reduceEqDiff,h0,h2,h4,h5]
        refine storeX_weak (L' := oRd rb s p3 :: oTp b4 17 0 0 0 none 0 0 :: oTp b2 0 0 0 0 none 0 0 :: ((Ka ++ Kb) ++ M)) (fun w hw => hw.perm (?_ : List.Perm (oRd rb s p3 :: ((Ka ++ Kb) ++ (oTp b4 17 0 0 0 none 0 0 :: oTp b2 0 0 0 0 none 0 0 :: M))) _)) (storeX 1 rfl Siz.eq rfl rfl (by simp [Value.oneCell']) (by simp) ?_)
        · exact permC fun f => by simp only [wt_append,wt_cons,wt_nil]; omega
        simp (disch:=omega) only[push_cast,Nat.reduceEqDiff,h0,h2,h4,h5]
        exact ⟨rfl,rfl,h0,h2,h4,⟨17,0,0,0,l⟩,p3,a,c,a2,c2,Ka,Kb,by rw [pInner_17,← hq2,if_neg h41,← hidem,hrq3,PR.and_ok,hqq3],hpq3,rfl,hO1,hO2,hKq3,rfl⟩
      · have h41 : s[blP s p2]? = some 41 := by simpa using hb
        simp (disch:=omega) only[push_cast,Nat.reduceEqDiff,h0,h2,h4,h5]
        exact ⟨rfl,rfl,h0,h2,h4,⟨17,0,0,0,[]⟩,blP s p2,none,0,none,0,[],[],by rw [pInner_17,← hq2,if_pos h41,hidem],hle2,h5,ows_nil,owps_nil,by simp,rfl⟩
    · subst hk
      repeat ((try rw [V_cond]); (try simp (disch:=omega) only[push_cast,Nat.reduceEqDiff,h0,h2,h4,h5]); (refine condX_d (fun h9 => ?_) (fun h9 => ?_) <;> first | (exfalso; first | omega | exact h9 trivial) | ((try clear h9); try simp (disch:=omega) only[push_cast,Nat.reduceEqDiff,h0,h2,h4,h5])))
      refine callV en_36 (callX_pr (fun w' hw' => hMa wb w' rb s p2 _ ⟨hs,hQ.says,hQ.lib,hp2,hrb,hX _ _,hw'⟩ (by have := runP_ge blankB s p2; unfold blP at *; omega)) (fun l q3 v p3 K hrq3 hqq3 hpq3 hSq3 hKq3 => ?_) (fun q3 K hrq3 hKq3 => ?_))
      rotate_left
      · simp (disch:=omega) only[push_cast,Nat.reduceEqDiff,h0,h2,h4,h5]
        exact hfall q3 K _ _ hKq3 (by rw [pInner_18,← hq2,hrq3]; rfl)
      (refine Exists.elim (hSq3) (fun a hz => Exists.elim hz (fun c hz => Exists.elim hz (fun a2 hz => Exists.elim hz (fun c2 hz => Exists.elim hz (fun Ka hz => Exists.elim hz (fun Kb hz => ?_)))))); have ez := hz.1; subst ez; have ez := hz.2.1; subst ez; have hO1 := hz.2.2.1; have hO2 := hz.2.2.2; clear hz)
      simp (disch:=omega) only[push_cast,Nat.reduceEqDiff,h0,h2,h4,h5]
      refine storeX_weak (L' := oRd rb s p3 :: oTp b4 18 0 0 0 none 0 0 :: oTp b2 0 0 0 0 none 0 0 :: ((Ka ++ Kb) ++ M)) (fun w hw => hw.perm (?_ : List.Perm (oRd rb s p3 :: ((Ka ++ Kb) ++ (oTp b4 18 0 0 0 none 0 0 :: oTp b2 0 0 0 0 none 0 0 :: M))) _)) (storeX 1 rfl Siz.eq rfl rfl (by simp [Value.oneCell']) (by simp) ?_)
      · exact permC fun f => by simp only [wt_append,wt_cons,wt_nil]; omega
      simp (disch:=omega) only[push_cast,Nat.reduceEqDiff,h0,h2,h4,h5]
      exact ⟨rfl,rfl,h0,h2,h4,⟨18,0,0,0,l⟩,p3,a,c,a2,c2,Ka,Kb,by rw [pInner_18,← hq2,hrq3,PR.and_ok,hqq3],hpq3,rfl,hO1,hO2,hKq3,rfl⟩
    · subst hk
      repeat ((try rw [V_cond]); (try simp (disch:=omega) only[push_cast,Nat.reduceEqDiff,h0,h2,h4,h5]); (refine condX_d (fun h9 => ?_) (fun h9 => ?_) <;> first | (exfalso; first | omega | exact h9 trivial) | ((try clear h9); try simp (disch:=omega) only[push_cast,Nat.reduceEqDiff,h0,h2,h4,h5])))
      refine callV en_110 (callX_pr (fun w' hw' => number_walk wb w' hQ.lib rb s p2 _ hs hp2 hrb (hX _ _) hw') (fun n q3 v p3 K hrq3 hqq3 hpq3 hSq3 hKq3 => ?_) (fun q3 K hrq3 hKq3 => ?_))
      rotate_left
      · simp (disch:=omega) only[push_cast,Nat.reduceEqDiff,h0,h2,h4,h5]
        exact hfall q3 K _ _ hKq3 (by rw [pInner_19,← hq2,hrq3]; rfl)
      have e1 := hSq3.1
      have e2 := hSq3.2
      subst e1
      subst e2
      simp (disch:=omega) only[push_cast,Nat.reduceEqDiff,h0,h2,h4,h5]
      refine storeX 1 rfl Siz.eq rfl rfl (by simp [Value.oneCell']) (by simp) ?_
      simp (disch:=omega) only[push_cast,Nat.reduceEqDiff,h0,h2,h4,h5]
      have n1 := pNum_le (by rw [hq2]; exact g2.2.1) hrq3
      refine callV en_101 (callX_pr (fun w' hw' => must_walk wb w' rb s p3 _ 44 44 rfl hs hpq3 hrb hw') (fun _ q4 v p4 K hrq4 hqq4 hpq4 hSq4 hKq4 => ?_) (fun q4 K hrq4 hKq4 => ?_))
      rotate_left
      · simp (disch:=omega) only[push_cast,Nat.reduceEqDiff,h0,h2,h4,h5]
        exact hfall q4 K _ _ hKq4 (by rw [pInner_19,← hq2,hrq3,PR.and_ok,← hqq3,hrq4]; rfl)
      have e1 := hSq4.1
      have e2 := hSq4.2
      subst e1
      subst e2
      simp (disch:=omega) only[push_cast,Nat.reduceEqDiff,h0,h2,h4,h5]
      have n2 := pSign_le (pMust_ok hrq4)
      refine callV en_108 (callX_pr (fun w' hw' => kind_walk wb w' hQ.says rb s p4 _ 112 saysIdx (by kernel_rfl) index_lets hs hpq4 hrb (hX _ _) hw') (fun ix q5 v p5 K hrq5 hqq5 hpq5 hSq5 hKq5 => ?_) (fun q5 K hrq5 hKq5 => ?_))
      rotate_left
      · simp (disch:=omega) only[push_cast,Nat.reduceEqDiff,h0,h2,h4,h5]
        exact hfall q5 K _ _ hKq5 (by rw [pInner_19,← hq2,hrq3,PR.and_ok,← hqq3,hrq4,PR.and_ok,← hqq4,hrq5]; rfl)
      have e1 := hSq5.1
      have e2 := hSq5.2
      subst e1
      subst e2
      simp (disch:=omega) only[push_cast,Nat.reduceEqDiff,h0,h2,h4,h5]
      refine storeX 1 rfl Siz.eq rfl rfl (by simp [Value.oneCell']) (by simp) ?_
      simp (disch:=omega) only[push_cast,Nat.reduceEqDiff,h0,h2,h4,h5]
      have n3 := pKind_le (by rw [hqq4]; exact n2.2.1) hrq5
      refine callV en_101 (callX_pr (fun w' hw' => must_walk wb w' rb s p5 _ 44 44 rfl hs hpq5 hrb hw') (fun _ q6 v p6 K hrq6 hqq6 hpq6 hSq6 hKq6 => ?_) (fun q6 K hrq6 hKq6 => ?_))
      rotate_left
      · simp (disch:=omega) only[push_cast,Nat.reduceEqDiff,h0,h2,h4,h5]
        exact hfall q6 K _ _ hKq6 (by rw [pInner_19,← hq2,hrq3,PR.and_ok,← hqq3,hrq4,PR.and_ok,← hqq4,hrq5,PR.and_ok,← hqq5,hrq6]; rfl)
      have e1 := hSq6.1
      have e2 := hSq6.2
      subst e1
      subst e2
      simp (disch:=omega) only[push_cast,Nat.reduceEqDiff,h0,h2,h4,h5]
      have n4 := pSign_le (pMust_ok hrq6)
      refine callV en_111 (callX_pr (fun w' hw' => hO wb w' rb s p6 _ ⟨hs,hQ.says,hQ.lib,hpq6,hrb,hX _ _,hw'⟩ (by omega)) (fun l q7 v p7 K hrq7 hqq7 hpq7 hSq7 hKq7 => ?_) (fun q7 K hrq7 hKq7 => ?_))
      rotate_left
      · simp (disch:=omega) only[push_cast,Nat.reduceEqDiff,h0,h2,h4,h5]
        exact hfall q7 K _ _ hKq7 (by rw [pInner_19,← hq2,hrq3,PR.and_ok,← hqq3,hrq4,PR.and_ok,← hqq4,hrq5,PR.and_ok,← hqq5,hrq6,PR.and_ok,← hqq6,hrq7]; rfl)
      (refine Exists.elim (hSq7) (fun a hz => Exists.elim hz (fun c hz => Exists.elim hz (fun a2 hz => Exists.elim hz (fun c2 hz => Exists.elim hz (fun Ka hz => Exists.elim hz (fun Kb hz => ?_)))))); have ez := hz.1; subst ez; have ez := hz.2.1; subst ez; have hO1 := hz.2.2.1; have hO2 := hz.2.2.2; clear hz)
      simp (disch:=omega) only[push_cast,Nat.reduceEqDiff,h0,h2,h4,h5]
      refine storeX_weak (L' := oRd rb s p7 :: oTp b4 19 0 n ix none 0 0 :: oTp b2 0 0 0 0 none 0 0 :: ((Ka ++ Kb) ++ M)) (fun w hw => hw.perm (?_ : List.Perm (oRd rb s p7 :: ((Ka ++ Kb) ++ (oTp b4 19 0 n ix none 0 0 :: oTp b2 0 0 0 0 none 0 0 :: M))) _)) (storeX 1 rfl Siz.eq rfl rfl (by simp [Value.oneCell']) (by simp) ?_)
      · exact permC fun f => by simp only [wt_append,wt_cons,wt_nil]; omega
      simp (disch:=omega) only[push_cast,Nat.reduceEqDiff,h0,h2,h4,h5]
      exact ⟨rfl,rfl,h0,h2,h4,⟨19,0,n,ix,l⟩,p7,a,c,a2,c2,Ka,Kb,by rw [pInner_19,← hq2,hrq3,PR.and_ok,← hqq3,hrq4,PR.and_ok,← hqq4,hrq5,PR.and_ok,← hqq5,hrq6,PR.and_ok,← hqq6,hrq7,PR.and_ok,hqq7],hpq7,rfl,hO1,hO2,hKq7,rfl⟩
    · subst hk
      repeat ((try rw [V_cond]); (try simp (disch:=omega) only[push_cast,Nat.reduceEqDiff,h0,h2,h4,h5]); (refine condX_d (fun h9 => ?_) (fun h9 => ?_) <;> first | (exfalso; first | omega | exact h9 trivial) | ((try clear h9); try simp (disch:=omega) only[push_cast,Nat.reduceEqDiff,h0,h2,h4,h5])))
      refine callV en_111 (callX_pr (fun w' hw' => hO wb w' rb s p2 _ ⟨hs,hQ.says,hQ.lib,hp2,hrb,hX _ _,hw'⟩ (by have := runP_ge blankB s p2; unfold blP at *; omega)) (fun l q3 v p3 K hrq3 hqq3 hpq3 hSq3 hKq3 => ?_) (fun q3 K hrq3 hKq3 => ?_))
      rotate_left
      · simp (disch:=omega) only[push_cast,Nat.reduceEqDiff,h0,h2,h4,h5]
        exact hfall q3 K _ _ hKq3 (by rw [pInner_20,← hq2,hrq3]; rfl)
      (refine Exists.elim (hSq3) (fun a hz => Exists.elim hz (fun c hz => Exists.elim hz (fun a2 hz => Exists.elim hz (fun c2 hz => Exists.elim hz (fun Ka hz => Exists.elim hz (fun Kb hz => ?_)))))); have ez := hz.1; subst ez; have ez := hz.2.1; subst ez; have hO1 := hz.2.2.1; have hO2 := hz.2.2.2; clear hz)
      simp (disch:=omega) only[push_cast,Nat.reduceEqDiff,h0,h2,h4,h5]
      refine storeX_weak (L' := oRd rb s p3 :: oTp b4 20 0 0 0 none 0 0 :: oTp b2 0 0 0 0 none 0 0 :: ((Ka ++ Kb) ++ M)) (fun w hw => hw.perm (?_ : List.Perm (oRd rb s p3 :: ((Ka ++ Kb) ++ (oTp b4 20 0 0 0 none 0 0 :: oTp b2 0 0 0 0 none 0 0 :: M))) _)) (storeX 1 rfl Siz.eq rfl rfl (by simp [Value.oneCell']) (by simp) ?_)
      · exact permC fun f => by simp only [wt_append,wt_cons,wt_nil]; omega
      simp (disch:=omega) only[push_cast,Nat.reduceEqDiff,h0,h2,h4,h5]
      exact ⟨rfl,rfl,h0,h2,h4,⟨20,0,0,0,l⟩,p3,a,c,a2,c2,Ka,Kb,by rw [pInner_20,← hq2,hrq3,PR.and_ok,hqq3],hpq3,rfl,hO1,hO2,hKq3,rfl⟩
  rintro wb e ds L ⟨rfl,rfl,h0,h2,h4,t,p3,a,c,a2,c2,K1,K2,hr3,hp3,h5,hO1,hO2,hKn,rfl⟩
  simp (disch:=omega) only[push_cast,Nat.reduceEqDiff,h0,h2,h4,h5]
  refine callV en_101 (callX_pr (fun w' hw' => must_walk wb w' rb s p3 _ 41 41 rfl hs hp3 hrb hw') (fun u q4 v p4 K hr4 hq4 hp4 hS4 hK4 => ?_) (fun q4 K hr4 hK4 => ?_))
  rotate_left
  · simp (disch:=omega) only[push_cast,Nat.reduceEqDiff,h0,h2,h4,h5]
    refine fun w' hw' => PRet.fall (K ++ ([oTp b4 t.k t.wd t.id t.ix a t.l.length c,oTp b2 0 0 0 0 none 0 0] ++ (K1 ++ K2))) (by rw [hpm,hr3,PR.and_ok,hr4,PR.and_no]) (fun b hb => ?_) (by simpa only [List.append_assoc,List.cons_append,List.nil_append] using hw')
    simp only [List.mem_append,List.mem_cons,List.mem_nil_iff,or_false] at hb hKn
    rcases hb with hb | (rfl | rfl) | hb
    · exact hK4 b hb
    · exact hb4
    · exact hb2
    · exact hKn b hb
  have e1 := hS4.1
  have e2 := hS4.2
  subst e1
  subst e2
  simp (disch:=omega) only[push_cast,Nat.reduceEqDiff,h0,h2,h4,h5]
  refine loadX_agg Shp.eq mem1 rfl rfl ?_
  simp (disch:=omega) only[push_cast,Nat.reduceEqDiff,h0,h2,h4,h5]
  refine storeX 2 rfl Siz.eq rfl rfl (by simp [Value.oneCell']) (by simp) ?_
  simp (disch:=omega) only[push_cast,Nat.reduceEqDiff,h0,h2,h4,h5]
  refine loadX_agg Shp.eq mem2 rfl rfl ?_
  simp (disch:=omega) only[push_cast,Nat.reduceEqDiff,h0,h2,h4,h5]
  refine fun w' hw' => PRet.leaf (S := fun x _ v K => TypeV x v K) _ p4 (K1 ++ K2) (x := t) (q := q4) (by rw [hpm,hr3,PR.and_ok,hr4,PR.and_ok]) hq4 hp4 ⟨a,c,a2,c2,K1,K2,rfl,rfl,hO1,hO2⟩ hKn ?_
  exact hw'.mid [_] [_,_] (fun b hb => by
    simp only [List.mem_cons,List.mem_nil_iff,or_false] at hb
    rcases hb with rfl | rfl
    · exact hb4
    · exact hb2)
end Go.Proofs.YtdmdgkpjjpijdaaGreatDoor
