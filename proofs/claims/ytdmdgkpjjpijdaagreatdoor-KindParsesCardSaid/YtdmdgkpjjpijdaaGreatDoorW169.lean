/- YtdmdgkpjjpijdaaGreatDoor: walks, part 169: a reader: fields with commas between. -/
import Derived.Test.YtdmdgkpjjpijdaaGreatDoorW168
namespace Go.Proofs.YtdmdgkpjjpijdaaGreatDoor
open Go Go.K
set_option maxRecDepth 100000
set_option linter.unusedVariables false
set_option linter.unusedSimpArgs false
set_option maxHeartbeats 4000000
theorem row_fields {w : World} {R K : Own} {v : Value} {l : List Fld} {cs : List Value} (h : RowO w 37 7 R [] v l.length cs) (hk : OwK l K cs) : ∃ a c,v = .slice a l.length c ∧ OwS l (R ++ K) a c := by
  obtain ⟨_,⟨rfl,h1,rfl⟩ | ⟨b,c,cs2,rfl,rfl,h1,h2,h3,h4,h5⟩⟩ := h
  · have : l = [] := List.eq_nil_of_length_eq_zero h1
    subst this
    rw [OwK] at hk
    obtain ⟨rfl,_⟩ := hk
    exact ⟨none,0,rfl,(OwS_iff _ _ _ _).2 (.inl ⟨rfl,rfl,rfl,rfl⟩)⟩
  · exact ⟨_,c,rfl,(OwS_iff _ _ _ _).2 (.inr ⟨b,c,cs2,cs,K,rfl,rfl,h2,Nat.le_refl _,.inl rfl,by simp only [maxLen] at h3; omega,h4,h5,hk⟩)⟩
theorem row_spots {w : World} {R K : Own} {v : Value} {l : List Sp} {cs : List Value} (h : RowO w 93 2 R [] v l.length cs) (hk : OwPK l K cs) : ∃ a c,v = .slice a l.length c ∧ OwPS l (R ++ K) a c := by
  obtain ⟨_,⟨rfl,h1,rfl⟩ | ⟨b,c,cs2,rfl,rfl,h1,h2,h3,h4,h5⟩⟩ := h
  · have : l = [] := List.eq_nil_of_length_eq_zero h1
    subst this
    rw [OwPK] at hk
    obtain ⟨rfl,_⟩ := hk
    exact ⟨none,0,rfl,(OwPS_iff _ _ _ _).2 (.inl ⟨rfl,rfl,rfl,rfl⟩)⟩
  · exact ⟨_,c,rfl,(OwPS_iff _ _ _ _).2 (.inr ⟨b,cs2,K,rfl,rfl,h2,h3,by rw [h5]; exact hk⟩)⟩
structure FsI (w0 : World) (rb : Nat) (s : List UInt8) (M : Own) (d : Nat) (t0 : PR (List Fz)) (p : Nat) (wb : World) (e : Env) (ds : List Deferred) (L : Own) : Prop where
  hw : wb = w0
  hds : ds = []
  hp : p ≤ s.length
  h0 : e 0 = .pointer (some ⟨rb,0,none⟩)
  o : ∃ (vl va : Value) (R1 R2 K1 K2 : Own) (xs : List Fz) (cs1 cs2 : List Value) (m : Nat),e 4 = vl ∧ e 5 = va ∧ RowO w0 37 7 R1 [] vl xs.length cs1 ∧ OwK (xs.map (·.1)) K1 cs1 ∧ RowO w0 93 2 R2 [] va xs.length cs2 ∧ OwPK (xs.map (·.2)) K2 cs2 ∧ (∀ b ∈ K1 ++ K2,w0.heap.size ≤ b.1) ∧
    xs.length ≤ blP s p ∧ s.length - blP s p < m ∧ s.length - blP s p < d ∧ (t0 = (pMany s (pField s d) m (blP s p)).and fun l r => .ok (xs ++ l) r) ∧ L = oRd rb s p :: (R1 ++ (R2 ++ (K1 ++ (K2 ++ M))))
theorem many_step (d : Nat) (hF : FieldOK d) : ManyOK d := by
  intro wb w rb s p M hQ hd
  refine enterB (args := [.pointer (some ⟨rb,0,none⟩)]) Tryz.func36 rfl Tryz.ntmps36 (congrArg Array.toList Tryz.results36) (by kernel_rfl) (by simp) hQ.hw ?_
  have hs := hQ.hs
  simp (disch:=omega) only[push_cast,Nat.reduceEqDiff]
  rw [V_block]
  simp (disch:=omega) only[push_cast,Nat.reduceEqDiff]
  refine loopW (G := Nat) (FsI wb rb s M d (pMany s (pField s d) (s.length + 1) (blP s p))) (fun p => s.length - blP s p) p _ (fun w hw => hw) (by kernel_rfl) ⟨rfl,rfl,hQ.hp,rfl,.slice none 0 0,.slice none 0 0,[],[],[],[],[],[],[],s.length + 1,rfl,rfl,⟨rfl,.inl ⟨rfl,rfl,rfl⟩⟩,.nil,⟨rfl,.inl ⟨rfl,rfl,rfl⟩⟩,.nil,by simp,by simp,by omega,hd,by
    cases pMany s (pField s d) (s.length + 1) (blP s p) <;> rfl,rfl⟩ ?_
  rintro i wb e ds L ⟨rfl,rfl,hi,h0,vl,va,R1,R2,K1,K2,xs,cs1,cs2,m,h4,h5,hR1,hK1,hR2,hK2,hKn,hxi,hm,hdi,ht,rfl⟩
  obtain ⟨m,rfl⟩ : ∃ k,m = k + 1 := ⟨m - 1,by omega⟩
  have hR1n : ∀ b ∈ R1,wb.heap.size ≤ b.1 := RowO.new hR1 (by simp)
  have hR2n : ∀ b ∈ R2,wb.heap.size ≤ b.1 := RowO.new hR2 (by simp)
  have hMn : ∀ b ∈ R1 ++ (R2 ++ (K1 ++ (K2 ++ M))),wb.heap.size ≤ b.1 := fun b hb => by
    simp only [List.mem_append] at hb hKn
    rcases hb with hb | hb | hb | hb | hb
    · exact hR1n b hb
    · exact hR2n b hb
    · exact hKn b (.inl hb)
    · exact hKn b (.inr hb)
    · exact hQ.hM b hb
  have hble : blP s i ≤ s.length := runP_le hi
  have hfull : ∀ r,(pMany s (pField s d) (m + 1) (blP s i)) = r → pMany s (pField s d) (s.length + 1) (blP s p) = r.and fun l r => .ok (xs ++ l) r := fun r h => by rw [ht,h]
  rw [V_block]
  simp (disch:=omega) only[push_cast,Nat.reduceEqDiff,h0,h4,h5]
  refine callV en_48 (callX_pr (fun w' hw' => hF wb w' rb s i _ ⟨hQ.hs,hQ.says,hQ.lib,hi,hQ.hrb,hMn,hw'⟩ hdi) (fun x q v p' K hr hq hp' hS hK => ?_) (fun q K hr hK => ?_))
  rotate_left
  · simp (disch:=omega) only[push_cast,Nat.reduceEqDiff,h0,h4,h5]
    refine fun w' hw' => PRet.fall (K ++ (R1 ++ (R2 ++ (K1 ++ K2)))) (by rw [hfull _ (by rw [pMany,hr,PR.and_no]),PR.and_no]) (fun b hb => ?_) (by simpa only [List.append_assoc] using hw')
    rcases List.mem_append.1 hb with hb | hb
    · exact hK b hb
    · exact hMn b (by simp only [List.mem_append] at hb ⊢; rcases hb with hb | hb | hb | hb <;> simp [hb])
  (refine Exists.elim (hS) (fun a hz => Exists.elim hz (fun c hz => Exists.elim hz (fun a2 hz => Exists.elim hz (fun c2 hz => Exists.elim hz (fun Ka hz => Exists.elim hz (fun Kb hz => ?_)))))); have ez := hz.1; subst ez; have ez := hz.2.1; subst ez; have hO1 := hz.2.2.1; have hO2 := hz.2.2.2; clear hz)
  have g1 := pField_goes s d _ _ _ hble hr
  simp (disch:=omega) only[push_cast,Nat.reduceEqDiff,h0,h4,h5,Fld.cells]
  refine newI (fun b6 hb6 hn6 => ?_)
  simp (disch:=omega) only[push_cast,Nat.reduceEqDiff,h0,h4,h5]
  refine newI (fun b7 hb7 hn7 => ?_)
  simp (disch:=omega) only[push_cast,Nat.reduceEqDiff,h0,h4,h5]
  refine storeX 1 rfl Siz.eq rfl rfl (by simp [Value.oneCell']) (by simp) ?_
  simp (disch:=omega) only[push_cast,Nat.reduceEqDiff,h0,h4,h5]
  refine storeX 0 rfl Siz.eq rfl rfl (by simp [Value.oneCell']) (by simp) ?_
  simp (disch:=omega) only[push_cast,Nat.reduceEqDiff,h0,h4,h5]
  refine loadX_agg Shp.eq mem1 rfl rfl ?_
  simp (disch:=omega) only[push_cast,Nat.reduceEqDiff,h0,h4,h5]
  refine bs_24_1 (newI fun b8 hb8 hn8 => ?_)
  simp (disch:=omega) only[push_cast,Nat.reduceEqDiff,h0,h4,h5]
  refine valX_weak (L' := R1 ++ (oFi b8 x.1 a c :: oSp b7 x.2.at_ a2 x.2.kids.length c2 :: oFi b6 x.1 a c :: oRd rb s p' :: ((Ka ++ Kb) ++ (R2 ++ (K1 ++ (K2 ++ M)))))) (fun w hw => hw.perm (?_ : List.Perm (oFi b8 x.1 a c :: oSp b7 x.2.at_ a2 x.2.kids.length c2 :: oFi b6 x.1 a c :: oRd rb s p' :: ((Ka ++ Kb) ++ (R1 ++ (R2 ++ (K1 ++ (K2 ++ M)))))) _)) (appendI un_24 infoFldC rfl (m := 1) (news := x.1.cells a c) (RowO.frame hR1) rfl (CanRead.of_own (e := 37) (b := b8) (cs := x.1.cells a c) (n := 7) (List.mem_append_right _ (.head _)) rfl rfl) (by simp [Value.oneCell',Fld.cells]) (by simp only [maxLen]; omega) (by omega) (fun v5 L5 hro5 _ => ?_))
  · exact permC fun f => by simp only [wt_append,wt_cons,wt_nil]; omega
  (refine Exists.elim (RowO.unframe hro5) (fun R3 hz => ?_); have ez := hz.1; subst ez; have hR3 := hz.2; clear hz)
  simp (disch:=omega) only[push_cast,Nat.reduceEqDiff,h0,h4,h5]
  refine loadX_agg Shp.eq (List.mem_append_right _ (.tail _ (.head _))) rfl rfl ?_
  simp (disch:=omega) only[push_cast,Nat.reduceEqDiff,h0,h4,h5]
  refine bs_74_1 (newI fun b9 hb9 hn9 => ?_)
  simp (disch:=omega) only[push_cast,Nat.reduceEqDiff,h0,h4,h5]
  refine valX_weak (L' := R2 ++ (oSp b9 x.2.at_ a2 x.2.kids.length c2 :: oFi b8 x.1 a c :: oSp b7 x.2.at_ a2 x.2.kids.length c2 :: oFi b6 x.1 a c :: oRd rb s p' :: ((Ka ++ Kb) ++ (R3 ++ (K1 ++ (K2 ++ M)))))) (fun w hw => hw.perm (?_ : List.Perm (oSp b9 x.2.at_ a2 x.2.kids.length c2 :: (R3 ++ (oFi b8 x.1 a c :: oSp b7 x.2.at_ a2 x.2.kids.length c2 :: oFi b6 x.1 a c :: oRd rb s p' :: ((Ka ++ Kb) ++ (R2 ++ (K1 ++ (K2 ++ M))))))) _)) (appendI un_74 infoSpot rfl (m := 1) (news := [i64 x.2.at_,.slice a2 x.2.kids.length c2]) (RowO.frame hR2) rfl (CanRead.of_own (e := 93) (b := b9) (cs := [i64 x.2.at_,.slice a2 x.2.kids.length c2]) (n := 2) (List.mem_append_right _ (.head _)) rfl rfl) (by simp [Value.oneCell']) (by simp only [maxLen]; omega) (by omega) (fun v6 L6 hro6 _ => ?_))
  · exact permC fun f => by simp only [wt_append,wt_cons,wt_nil]; omega
  (refine Exists.elim (RowO.unframe hro6) (fun R4 hz => ?_); have ez := hz.1; subst ez; have hR4 := hz.2; clear hz)
  simp (disch:=omega) only[push_cast,Nat.reduceEqDiff,h0,h4,h5]
  have hle2 : blP s p' ≤ s.length := runP_le hp'
  have hR3n : ∀ b ∈ R3,wb.heap.size ≤ b.1 := RowO.new hR3 (by simp)
  have hR4n : ∀ b ∈ R4,wb.heap.size ≤ b.1 := RowO.new hR4 (by simp)
  have hKn2 : ∀ b ∈ (K1 ++ Ka) ++ (K2 ++ Kb),wb.heap.size ≤ b.1 := fun b hb => by
    simp only [List.mem_append] at hb hKn hK
    rcases hb with (hb | hb) | hb | hb
    · exact hKn b (.inl hb)
    · exact hK b (.inl hb)
    · exact hKn b (.inr hb)
    · exact hK b (.inr hb)
  have hK1' : OwK ((xs ++ [x]).map (·.1)) (K1 ++ Ka) (cs1 ++ x.1.cells a c) := by rw [List.map_append]; exact OwK.append (OwK.single hO1) hK1
  have hK2' : OwPK ((xs ++ [x]).map (·.2)) (K2 ++ Kb) (cs2 ++ [i64 x.2.at_,.slice a2 x.2.kids.length c2]) := by rw [List.map_append]; exact OwPK.append (OwPK.single hO2) hK2
  have hstep : pMany s (pField s d) (m + 1) (blP s i) = match pSign s 44 q with
      | none => .ok [x] q
      | some r2 => (pMany s (pField s d) m r2).and fun l r3 => .ok (x :: l) r3 := by
    rw [pMany,hr,PR.and_ok]
    cases pSign s 44 q <;> rfl
  refine callV en_37 (callX_two (fun L' => s[blP s p']? = some 44 ∧ L' = oRd rb s (blP s p' + 1) :: (R3 ++ (R4 ++ ((K1 ++ Ka) ++ ((K2 ++ Kb) ++ M))))) (fun L' => s[blP s p']? ≠ some 44 ∧ L' = oRd rb s (blP s p') :: (R3 ++ (R4 ++ ((K1 ++ Ka) ++ ((K2 ++ Kb) ++ M))))) (fun w' hw' => take_walk wb w' rb s p' _ 44 44 rfl hs hp' (Sy.left (A := [oSp b9 x.2.at_ a2 x.2.kids.length c2,oFi b8 x.1 a c,oSp b7 x.2.at_ a2 x.2.kids.length c2,oFi b6 x.1 a c]) (hw'.perm (?_ : List.Perm (R4 ++ (oSp b9 x.2.at_ a2 x.2.kids.length c2 :: oFi b8 x.1 a c :: oSp b7 x.2.at_ a2 x.2.kids.length c2 :: oFi b6 x.1 a c :: oRd rb s p' :: ((Ka ++ Kb) ++ (R3 ++ (K1 ++ (K2 ++ M)))))) _)) (fun b hb => ?_))) (fun L' hL' => ?_) (fun L' hL' => ?_))
  · exact permC fun f => by simp only [wt_append,wt_cons,wt_nil]; omega
  · simp only [List.mem_cons,List.mem_nil_iff,or_false] at hb
    rcases hb with rfl | rfl | rfl | rfl
    · exact hb9
    · exact hb8
    · exact hb7
    · exact hb6
  · have h := hL'.1
    have e := hL'.2
    subst e
    have hlt := (List.getElem?_eq_some_iff.1 h).1
    simp (disch:=omega) only[push_cast,Nat.reduceEqDiff,h0,h4,h5,Bool.not_true]
    rw [V_cond]
    simp (disch:=omega) only[push_cast,Nat.reduceEqDiff,h0,h4,h5,Bool.not_true]
    have hq44 : pSign s 44 q = some (blP s (blP s p' + 1)) := by
      unfold pSign
      rw [← hq,if_pos h]
    have hge : blP s p' + 1 ≤ blP s (blP s p' + 1) := runP_ge _ _ _
    refine ⟨blP s p' + 1,_,fun w hw => hw,⟨rfl,rfl,by omega,h0,_,_,R3,R4,K1 ++ Ka,K2 ++ Kb,xs ++ [x],_,_,m,rfl,rfl,hR3.cast (by simp) rfl,hK1',hR4.cast (by simp) rfl,hK2',hKn2,by simp only [List.length_append,List.length_cons,List.length_nil]; omega,by omega,by omega,?_,rfl⟩,by omega⟩
    rw [hfull _ hstep,hq44]
    simp only
    cases pMany s (pField s d) m (blP s (blP s p' + 1)) <;> simp [PR.and]
  · have h := hL'.1
    have e := hL'.2
    subst e
    simp (disch:=omega) only[push_cast,Nat.reduceEqDiff,h0,h4,h5,Bool.not_false]
    rw [V_cond]
    simp (disch:=omega) only[push_cast,Nat.reduceEqDiff,h0,h4,h5,Bool.not_false]
    have hq44 : pSign s 44 q = none := by
      unfold pSign
      rw [← hq,if_neg h]
    have hl1 : ((xs ++ [x]).map (·.1)).length = xs.length + 1 := by simp
    have hl2 : ((xs ++ [x]).map (·.2)).length = xs.length + 1 := by simp
    have k1 := row_fields (hR3.cast hl1.symm rfl) hK1'
    have k2 := row_spots (hR4.cast hl2.symm rfl) hK2'
    refine fun w' hw' => ?_
    obtain ⟨a3,c3,rfl,o1⟩ := k1
    obtain ⟨a4,c4,rfl,o2⟩ := k2
    refine PRet.leaf _ (blP s p') ((R3 ++ (K1 ++ Ka)) ++ (R4 ++ (K2 ++ Kb))) (x := xs ++ [x]) (q := q) ?_ (by rw [blP,runP_idem]; exact hq) hle2 ⟨a3,c3,a4,c4,_,_,by rw [hl1,hl2]; simp,rfl,o1,o2⟩ (fun b hb => ?_) (hw'.perm (permC fun f => by simp only [wt_append,wt_cons,wt_nil]; omega))
    · rw [hfull _ hstep,hq44]
      rfl
    · simp only [List.mem_append] at hb hKn2
      rcases hb with (hb | hb | hb) | hb | hb | hb
      · exact hR3n b hb
      · exact hKn2 b (.inl (.inl hb))
      · exact hKn2 b (.inl (.inr hb))
      · exact hR4n b hb
      · exact hKn2 b (.inr (.inl hb))
      · exact hKn2 b (.inr (.inr hb))
end Go.Proofs.YtdmdgkpjjpijdaaGreatDoor
