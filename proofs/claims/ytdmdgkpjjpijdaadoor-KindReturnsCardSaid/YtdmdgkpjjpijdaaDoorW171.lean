/- YtdmdgkpjjpijdaaDoor: walks, part 169: a reader: fields with commas between. -/
import Derived.Test.YtdmdgkpjjpijdaaDoorW168
namespace Go.Proofs.YtdmdgkpjjpijdaaDoor
open Go Go.K
set_option maxRecDepth 100000
set_option linter.unusedVariables false
set_option linter.unusedSimpArgs false
set_option maxHeartbeats 4000000
theorem row_fields {w : World} {R K : Own} {v : Value} {l : List Fld} {cs : List Value} (h : RowO w 41 7 R [] v l.length cs) (hk : OwK l K cs) : ∃ a c, v = .slice a l.length c ∧ OwS l (R ++ K) a c := by
  obtain ⟨_, ⟨rfl, h1, rfl⟩ | ⟨b, c, cs2, rfl, rfl, h1, h2, h3, h4, h5⟩⟩ := h
  · have : l = [] := List.eq_nil_of_length_eq_zero h1
    subst this
    rw [OwK] at hk
    obtain ⟨rfl, _⟩ := hk
    exact ⟨none, 0, rfl, (OwS_iff _ _ _ _).2 (.inl ⟨rfl, rfl, rfl, rfl⟩)⟩
  · exact ⟨_, c, rfl, (OwS_iff _ _ _ _).2 (.inr ⟨b, c, cs2, cs, K, rfl, rfl, h2, Nat.le_refl _, .inl rfl, by simp only [maxLen] at h3; omega, h4, h5, hk⟩)⟩
theorem row_spots {w : World} {R K : Own} {v : Value} {l : List Sp} {cs : List Value} (h : RowO w 78 2 R [] v l.length cs) (hk : OwPK l K cs) : ∃ a c, v = .slice a l.length c ∧ OwPS l (R ++ K) a c := by
  obtain ⟨_, ⟨rfl, h1, rfl⟩ | ⟨b, c, cs2, rfl, rfl, h1, h2, h3, h4, h5⟩⟩ := h
  · have : l = [] := List.eq_nil_of_length_eq_zero h1
    subst this
    rw [OwPK] at hk
    obtain ⟨rfl, _⟩ := hk
    exact ⟨none, 0, rfl, (OwPS_iff _ _ _ _).2 (.inl ⟨rfl, rfl, rfl, rfl⟩)⟩
  · exact ⟨_, c, rfl, (OwPS_iff _ _ _ _).2 (.inr ⟨b, cs2, K, rfl, rfl, h2, h3, by rw [h5]; exact hk⟩)⟩
structure FsI (w0 : World) (rb : Nat) (s : List UInt8) (M : Own) (d : Nat) (t0 : PR (List Fz)) (p : Nat) (wb : World) (e : Env) (ds : List Deferred) (L : Own) : Prop where
  hw : wb = w0
  hds : ds = []
  hp : p ≤ s.length
  h0 : e 0 = .pointer (some ⟨rb, 0, none⟩)
  o : ∃ (vl va : Value) (R1 R2 K1 K2 : Own) (xs : List Fz) (cs1 cs2 : List Value) (m : Nat), e 4 = vl ∧ e 5 = va ∧ RowO w0 41 7 R1 [] vl xs.length cs1 ∧ OwK (xs.map (·.1)) K1 cs1 ∧ RowO w0 78 2 R2 [] va xs.length cs2 ∧ OwPK (xs.map (·.2)) K2 cs2 ∧ (∀ b ∈ K1 ++ K2, w0.heap.size ≤ b.1) ∧
    xs.length ≤ blP s p ∧ s.length - blP s p < m ∧ s.length - blP s p < d ∧ (t0 = (pMany s (pField s d) m (blP s p)).and fun l r => .ok (xs ++ l) r) ∧ L = oRd rb s p :: (R1 ++ (R2 ++ (K1 ++ (K2 ++ M))))
theorem many_step (d : Nat) (hF : FieldOK d) : ManyOK d := by
  intro wb w rb s p M hQ hd
  refine enterB (args := [.pointer (some ⟨rb, 0, none⟩)]) Tryd.func22 rfl Tryd.ntmps22 (congrArg Array.toList Tryd.results22) (by kernel_rfl) (by simp) hQ.hw ?_
  have hs := hQ.hs
  simp (disch := omega) only [push_cast, Nat.reduceEqDiff]
  rw [V_block]
  simp (disch := omega) only [push_cast, Nat.reduceEqDiff]
  refine loopW (G := Nat) (FsI wb rb s M d (pMany s (pField s d) (s.length + 1) (blP s p))) (fun p => s.length - blP s p) p _ (fun w hw => hw) (by kernel_rfl) ⟨rfl, rfl, hQ.hp, rfl, .slice none 0 0, .slice none 0 0, [], [], [], [], [], [], [], s.length + 1, rfl, rfl, ⟨rfl, .inl ⟨rfl, rfl, rfl⟩⟩, .nil, ⟨rfl, .inl ⟨rfl, rfl, rfl⟩⟩, .nil, by simp, by simp, by omega, hd, by
    cases pMany s (pField s d) (s.length + 1) (blP s p) <;> rfl, rfl⟩ ?_
  rintro i wb e ds L ⟨rfl, rfl, hi, h0, vl, va, R1, R2, K1, K2, xs, cs1, cs2, m, h4, h5, hR1, hK1, hR2, hK2, hKn, hxi, hm, hdi, ht, rfl⟩
  obtain ⟨m, rfl⟩ : ∃ k, m = k + 1 := ⟨m - 1, by omega⟩
  have hR1n : ∀ b ∈ R1, wb.heap.size ≤ b.1 := RowO.new hR1 (by simp)
  have hR2n : ∀ b ∈ R2, wb.heap.size ≤ b.1 := RowO.new hR2 (by simp)
  have hMn : ∀ b ∈ R1 ++ (R2 ++ (K1 ++ (K2 ++ M))), wb.heap.size ≤ b.1 := fun b hb => by
    simp only [List.mem_append] at hb hKn
    rcases hb with hb | hb | hb | hb | hb
    · exact hR1n b hb
    · exact hR2n b hb
    · exact hKn b (.inl hb)
    · exact hKn b (.inr hb)
    · exact hQ.hM b hb
  have hble : blP s i ≤ s.length := runP_le hi
  have hfull : ∀ r, (pMany s (pField s d) (m + 1) (blP s i)) = r → pMany s (pField s d) (s.length + 1) (blP s p) = r.and fun l r => .ok (xs ++ l) r := fun r h => by rw [ht, h]
  rw [V_block]
  simp (disch := omega) only [push_cast, Nat.reduceEqDiff, h0, h4, h5]
  refine callV en_35 (callX_pr (fun w' hw' => hF wb w' rb s i _ ⟨hQ.hs, hQ.says, hQ.lib, hi, hQ.hrb, hMn, hw'⟩ hdi) (fun x q v p' K hr hq hp' hS hK => ?_) (fun q K hr hK => ?_))
  rotate_left
  · simp (disch := omega) only [push_cast, Nat.reduceEqDiff, h0, h4, h5]
    refine fun w' hw' => PRet.fall (K ++ (R1 ++ (R2 ++ (K1 ++ K2)))) (by rw [hfull _ (by rw [pMany, hr, PR.and_no]), PR.and_no]) (fun b hb => ?_) (by simpa only [List.append_assoc] using hw')
    rcases List.mem_append.1 hb with hb | hb
    · exact hK b hb
    · exact hMn b (by simp only [List.mem_append] at hb ⊢; rcases hb with hb | hb | hb | hb <;> simp [hb])
  (refine Exists.elim (hS) (fun a hz => Exists.elim hz (fun c hz => Exists.elim hz (fun a2 hz => Exists.elim hz (fun c2 hz => Exists.elim hz (fun Ka hz => Exists.elim hz (fun Kb hz => ?_)))))); have ez := hz.1; subst ez; have ez := hz.2.1; subst ez; have hO1 := hz.2.2.1; have hO2 := hz.2.2.2; clear hz)
  have g1 := pField_goes s d _ _ _ hble hr
  simp (disch := omega) only [push_cast, Nat.reduceEqDiff, h0, h4, h5, Fld.cells]
  refine newI (fun b6 hb6 hn6 => ?_)
  simp (disch := omega) only [push_cast, Nat.reduceEqDiff, h0, h4, h5]
  refine newI (fun b7 hb7 hn7 => ?_)
  simp (disch := omega) only [push_cast, Nat.reduceEqDiff, h0, h4, h5]
  refine storeX 1 rfl Siz.eq rfl rfl (by simp [Value.oneCell']) (by simp) ?_
  simp (disch := omega) only [push_cast, Nat.reduceEqDiff, h0, h4, h5]
  refine storeX 0 rfl Siz.eq rfl rfl (by simp [Value.oneCell']) (by simp) ?_
  simp (disch := omega) only [push_cast, Nat.reduceEqDiff, h0, h4, h5]
  refine loadX_agg Shp.eq mem1 rfl rfl ?_
  simp (disch := omega) only [push_cast, Nat.reduceEqDiff, h0, h4, h5]
  refine bs_23_1 (newI fun b8 hb8 hn8 => ?_)
  simp (disch := omega) only [push_cast, Nat.reduceEqDiff, h0, h4, h5]
  refine valX_weak (L' := R1 ++ (oFi b8 x.1 a c :: oSp b7 x.2.at_ a2 x.2.kids.length c2 :: oFi b6 x.1 a c :: oRd rb s p' :: ((Ka ++ Kb) ++ (R2 ++ (K1 ++ (K2 ++ M)))))) (fun w hw => hw.perm (?_ : List.Perm (oFi b8 x.1 a c :: oSp b7 x.2.at_ a2 x.2.kids.length c2 :: oFi b6 x.1 a c :: oRd rb s p' :: ((Ka ++ Kb) ++ (R1 ++ (R2 ++ (K1 ++ (K2 ++ M)))))) _)) (appendI un_23 infoFldC rfl (m := 1) (news := x.1.cells a c) (RowO.frame hR1) rfl (CanRead.of_own (e := 41) (b := b8) (cs := x.1.cells a c) (n := 7) (List.mem_append_right _ (.head _)) rfl rfl) (by simp [Value.oneCell', Fld.cells]) (by simp only [maxLen]; omega) (by omega) (fun v5 L5 hro5 _ => ?_))
  · exact permC fun f => by simp only [wt_append, wt_cons, wt_nil]; omega
  (refine Exists.elim (RowO.unframe hro5) (fun R3 hz => ?_); have ez := hz.1; subst ez; have hR3 := hz.2; clear hz)
  simp (disch := omega) only [push_cast, Nat.reduceEqDiff, h0, h4, h5]
  refine loadX_agg Shp.eq (List.mem_append_right _ (.tail _ (.head _))) rfl rfl ?_
  simp (disch := omega) only [push_cast, Nat.reduceEqDiff, h0, h4, h5]
  refine bs_57_1 (newI fun b9 hb9 hn9 => ?_)
  simp (disch := omega) only [push_cast, Nat.reduceEqDiff, h0, h4, h5]
  refine valX_weak (L' := R2 ++ (oSp b9 x.2.at_ a2 x.2.kids.length c2 :: oFi b8 x.1 a c :: oSp b7 x.2.at_ a2 x.2.kids.length c2 :: oFi b6 x.1 a c :: oRd rb s p' :: ((Ka ++ Kb) ++ (R3 ++ (K1 ++ (K2 ++ M)))))) (fun w hw => hw.perm (?_ : List.Perm (oSp b9 x.2.at_ a2 x.2.kids.length c2 :: (R3 ++ (oFi b8 x.1 a c :: oSp b7 x.2.at_ a2 x.2.kids.length c2 :: oFi b6 x.1 a c :: oRd rb s p' :: ((Ka ++ Kb) ++ (R2 ++ (K1 ++ (K2 ++ M))))))) _)) (appendI un_57 infoSpot rfl (m := 1) (news := [i64 x.2.at_, .slice a2 x.2.kids.length c2]) (RowO.frame hR2) rfl (CanRead.of_own (e := 78) (b := b9) (cs := [i64 x.2.at_, .slice a2 x.2.kids.length c2]) (n := 2) (List.mem_append_right _ (.head _)) rfl rfl) (by simp [Value.oneCell']) (by simp only [maxLen]; omega) (by omega) (fun v6 L6 hro6 _ => ?_))
  · exact permC fun f => by simp only [wt_append, wt_cons, wt_nil]; omega
  (refine Exists.elim (RowO.unframe hro6) (fun R4 hz => ?_); have ez := hz.1; subst ez; have hR4 := hz.2; clear hz)
  simp (disch := omega) only [push_cast, Nat.reduceEqDiff, h0, h4, h5]
  have hle2 : blP s p' ≤ s.length := runP_le hp'
  have hR3n : ∀ b ∈ R3, wb.heap.size ≤ b.1 := RowO.new hR3 (by simp)
  have hR4n : ∀ b ∈ R4, wb.heap.size ≤ b.1 := RowO.new hR4 (by simp)
  have hKn2 : ∀ b ∈ (K1 ++ Ka) ++ (K2 ++ Kb), wb.heap.size ≤ b.1 := fun b hb => by
    simp only [List.mem_append] at hb hKn hK
    rcases hb with (hb | hb) | hb | hb
    · exact hKn b (.inl hb)
    · exact hK b (.inl hb)
    · exact hKn b (.inr hb)
    · exact hK b (.inr hb)
  have hK1' : OwK ((xs ++ [x]).map (·.1)) (K1 ++ Ka) (cs1 ++ x.1.cells a c) := by rw [List.map_append]; exact OwK.append (OwK.single hO1) hK1
  have hK2' : OwPK ((xs ++ [x]).map (·.2)) (K2 ++ Kb) (cs2 ++ [i64 x.2.at_, .slice a2 x.2.kids.length c2]) := by rw [List.map_append]; exact OwPK.append (OwPK.single hO2) hK2
  have hstep : pMany s (pField s d) (m + 1) (blP s i) = match pSign s 44 q with
      | none => .ok [x] q
      | some r2 => (pMany s (pField s d) m r2).and fun l r3 => .ok (x :: l) r3 := by
    rw [pMany, hr, PR.and_ok]
    cases pSign s 44 q <;> rfl
  refine callV en_23 (callX_two (fun L' => s[blP s p']? = some 44 ∧ L' = oRd rb s (blP s p' + 1) :: (R3 ++ (R4 ++ ((K1 ++ Ka) ++ ((K2 ++ Kb) ++ M))))) (fun L' => s[blP s p']? ≠ some 44 ∧ L' = oRd rb s (blP s p') :: (R3 ++ (R4 ++ ((K1 ++ Ka) ++ ((K2 ++ Kb) ++ M))))) (fun w' hw' => take_walk wb w' rb s p' _ 44 44 rfl hs hp' (Sy.left (A := [oSp b9 x.2.at_ a2 x.2.kids.length c2, oFi b8 x.1 a c, oSp b7 x.2.at_ a2 x.2.kids.length c2, oFi b6 x.1 a c]) (hw'.perm (?_ : List.Perm (R4 ++ (oSp b9 x.2.at_ a2 x.2.kids.length c2 :: oFi b8 x.1 a c :: oSp b7 x.2.at_ a2 x.2.kids.length c2 :: oFi b6 x.1 a c :: oRd rb s p' :: ((Ka ++ Kb) ++ (R3 ++ (K1 ++ (K2 ++ M)))))) _)) (fun b hb => ?_))) (fun L' hL' => ?_) (fun L' hL' => ?_))
  · exact permC fun f => by simp only [wt_append, wt_cons, wt_nil]; omega
  · simp only [List.mem_cons, List.mem_nil_iff, or_false] at hb
    rcases hb with rfl | rfl | rfl | rfl
    · exact hb9
    · exact hb8
    · exact hb7
    · exact hb6
  · have h := hL'.1
    have e := hL'.2
    subst e
    have hlt := (List.getElem?_eq_some_iff.1 h).1
    simp (disch := omega) only [push_cast, Nat.reduceEqDiff, h0, h4, h5, Bool.not_true]
    rw [V_cond]
    simp (disch := omega) only [push_cast, Nat.reduceEqDiff, h0, h4, h5, Bool.not_true]
    have hq44 : pSign s 44 q = some (blP s (blP s p' + 1)) := by
      unfold pSign
      rw [← hq, if_pos h]
    have hge : blP s p' + 1 ≤ blP s (blP s p' + 1) := runP_ge _ _ _
    refine ⟨blP s p' + 1, _, fun w hw => hw, ⟨rfl, rfl, by omega, h0, _, _, R3, R4, K1 ++ Ka, K2 ++ Kb, xs ++ [x], _, _, m, rfl, rfl, hR3.cast (by simp) rfl, hK1', hR4.cast (by simp) rfl, hK2', hKn2, by simp only [List.length_append, List.length_cons, List.length_nil]; omega, by omega, by omega, ?_, rfl⟩, by omega⟩
    rw [hfull _ hstep, hq44]
    simp only
    cases pMany s (pField s d) m (blP s (blP s p' + 1)) <;> simp [PR.and]
  · have h := hL'.1
    have e := hL'.2
    subst e
    simp (disch := omega) only [push_cast, Nat.reduceEqDiff, h0, h4, h5, Bool.not_false]
    rw [V_cond]
    simp (disch := omega) only [push_cast, Nat.reduceEqDiff, h0, h4, h5, Bool.not_false]
    have hq44 : pSign s 44 q = none := by
      unfold pSign
      rw [← hq, if_neg h]
    have hl1 : ((xs ++ [x]).map (·.1)).length = xs.length + 1 := by simp
    have hl2 : ((xs ++ [x]).map (·.2)).length = xs.length + 1 := by simp
    have k1 := row_fields (hR3.cast hl1.symm rfl) hK1'
    have k2 := row_spots (hR4.cast hl2.symm rfl) hK2'
    refine fun w' hw' => ?_
    obtain ⟨a3, c3, rfl, o1⟩ := k1
    obtain ⟨a4, c4, rfl, o2⟩ := k2
    refine PRet.leaf _ (blP s p') ((R3 ++ (K1 ++ Ka)) ++ (R4 ++ (K2 ++ Kb))) (x := xs ++ [x]) (q := q) ?_ (by rw [blP, runP_idem]; exact hq) hle2 ⟨a3, c3, a4, c4, _, _, by rw [hl1, hl2]; simp, rfl, o1, o2⟩ (fun b hb => ?_) (hw'.perm (permC fun f => by simp only [wt_append, wt_cons, wt_nil]; omega))
    · rw [hfull _ hstep, hq44]
      rfl
    · simp only [List.mem_append] at hb hKn2
      rcases hb with (hb | hb | hb) | hb | hb | hb
      · exact hR3n b hb
      · exact hKn2 b (.inl (.inl hb))
      · exact hKn2 b (.inl (.inr hb))
      · exact hR4n b hb
      · exact hKn2 b (.inr (.inl hb))
      · exact hKn2 b (.inr (.inr hb))
end Go.Proofs.YtdmdgkpjjpijdaaDoor
/- YtdmdgkpjjpijdaaDoor: walks, part 170: a reader: types. -/
namespace Go.Proofs.YtdmdgkpjjpijdaaDoor
open Go Go.K
set_option maxRecDepth 100000
set_option linter.unusedVariables false
set_option linter.unusedSimpArgs false
set_option maxHeartbeats 4000000
abbrev oTp (b : Nat) (k wd id ix : Int) (a : Option Addr) (n c : Nat) : Nat × Obj := (b, Obj.cells #[i64 k, i64 wd, i64 id, i64 ix, .slice a n c] 39 (0, 0))
/-- What is known behind the bracket. -/
structure Ty0 (w0 : World) (rb : Nat) (s : List UInt8) (M : Own) (b2 b4 k q : Nat) (wb : World) (e : Env) (ds : List Deferred) (L : Own) : Prop where
  hw : wb = w0
  hds : ds = []
  h0 : e 0 = .pointer (some ⟨rb, 0, none⟩)
  h2 : e 2 = .pointer (some ⟨b2, 0, none⟩)
  h4 : e 4 = .pointer (some ⟨b4, 0, none⟩)
  h5 : e 5 = .slice none 0 0
  hk : ¬ k < 14
  o : ∃ (p2 q2 : Nat), pMust s 40 q = .ok () q2 ∧ blP s p2 = q2 ∧ p2 ≤ s.length ∧ L = oRd rb s p2 :: oTp b4 k 0 0 0 none 0 0 :: oTp b2 0 0 0 0 none 0 0 :: M
/-- What is known when what stands in a type's brackets has been read. -/
structure TyI (w0 : World) (rb : Nat) (s : List UInt8) (M : Own) (b2 b4 : Nat) (d k q : Nat) (wb : World) (e : Env) (ds : List Deferred) (L : Own) : Prop where
  hw : wb = w0
  hds : ds = []
  h0 : e 0 = .pointer (some ⟨rb, 0, none⟩)
  h2 : e 2 = .pointer (some ⟨b2, 0, none⟩)
  h4 : e 4 = .pointer (some ⟨b4, 0, none⟩)
  o : ∃ (t : Ty) (p3 : Nat) (a : Option Addr) (c : Nat) (a2 : Option Addr) (c2 : Nat) (K1 K2 : Own), pInner s (pField s d) k q = .ok t (blP s p3) ∧ p3 ≤ s.length ∧ e 5 = .slice a2 t.l.length c2 ∧ OwS (t.l.map (·.1)) K1 a c ∧ OwPS (t.l.map (·.2)) K2 a2 c2 ∧ (∀ b ∈ K1 ++ K2, w0.heap.size ≤ b.1) ∧
    L = oRd rb s p3 :: oTp b4 t.k t.wd t.id t.ix a t.l.length c :: oTp b2 0 0 0 0 none 0 0 :: ((K1 ++ K2) ++ M)
theorem _root_.Go.K.Sy.drop13 {wb w : World} {a x b : Nat × Obj} {M : Own} (h : Sy wb (a :: x :: b :: M) w) (ha : wb.heap.size ≤ a.1) (hb : wb.heap.size ≤ b.1) : Sy wb (x :: M) w := (h.left (A := [a]) (by simpa using ha)).mid [x] [b] (by simpa using hb)
theorem ows_nil : OwS [] [] none 0 := (OwS_iff _ _ _ _).2 (.inl ⟨rfl, rfl, rfl, rfl⟩)
theorem owps_nil : OwPS [] [] none 0 := (OwPS_iff _ _ _ _).2 (.inl ⟨rfl, rfl, rfl, rfl⟩)
theorem pInner_14 (s : List UInt8) (F : Nat → PR Fz) (q : Nat) : pInner s F 14 q = (pNum s q).and fun n r => .ok ⟨14, n, 0, 0, []⟩ r := rfl
theorem pInner_15 (s : List UInt8) (F : Nat → PR Fz) (q : Nat) : pInner s F 15 q = (one F q).and fun l r => .ok ⟨15, 0, 0, 0, l⟩ r := rfl
theorem pInner_20 (s : List UInt8) (F : Nat → PR Fz) (q : Nat) : pInner s F 20 q = (one F q).and fun l r => .ok ⟨20, 0, 0, 0, l⟩ r := rfl
theorem pInner_18 (s : List UInt8) (F : Nat → PR Fz) (q : Nat) : pInner s F 18 q = (pMany s F (s.length + 1) q).and fun l r => .ok ⟨18, 0, 0, 0, l⟩ r := rfl
theorem pInner_17 (s : List UInt8) (F : Nat → PR Fz) (q : Nat) : pInner s F 17 q = if s[q]? = some 41 then .ok ⟨17, 0, 0, 0, []⟩ q else (pMany s F (s.length + 1) q).and fun l r => .ok ⟨17, 0, 0, 0, l⟩ r := rfl
theorem pInner_16 (s : List UInt8) (F : Nat → PR Fz) (q : Nat) : pInner s F 16 q = (pNum s q).and fun n r => (pMust s 44 r).and fun _ r => (one F r).and fun l r => .ok ⟨16, n, 0, 0, l⟩ r := rfl
theorem pInner_19 (s : List UInt8) (F : Nat → PR Fz) (q : Nat) : pInner s F 19 q = (pNum s q).and fun n r => (pMust s 44 r).and fun _ r => (pKind s saysIdx r).and fun i r => (pMust s 44 r).and fun _ r => (one F r).and fun l r => .ok ⟨19, 0, n, i, l⟩ r := rfl
theorem typeR_step (d : Nat) (hO : OneOK d) (hMa : ManyOK d) : TypeOK d := by
  intro wb w rb s p M hQ hd
  have hs := hQ.hs
  have hrb := hQ.hrb
  refine enterB (args := [.pointer (some ⟨rb, 0, none⟩)]) Tryd.func53 rfl Tryd.ntmps53 (congrArg Array.toList Tryd.results53) (by kernel_rfl) (by simp) hQ.hw ?_
  simp (disch := omega) only [push_cast, Nat.reduceEqDiff]
  refine newI (fun b2 hb2 hn2 => ?_)
  simp (disch := omega) only [push_cast, Nat.reduceEqDiff]
  have hM1 : ∀ o : Obj, ∀ b ∈ (b2, o) :: M, wb.heap.size ≤ b.1 := fun o b hb => by
    rcases List.mem_cons.1 hb with rfl | hb
    · exact hb2
    · exact hQ.hM b hb
  refine callV en_61 (callX_pr (fun w' hw' => kind_walk wb w' hQ.says rb s p (oTp b2 0 0 0 0 none 0 0 :: M) 59 (fun _ => true) en_59 known_lets hs hQ.hp hrb (hM1 _) (hw'.perm (List.Perm.swap _ _ _))) (fun k q v p1 K hr hq hp1 hS hK => ?_) (fun q K hr hK => ?_))
  rotate_left
  · simp (disch := omega) only [push_cast, Nat.reduceEqDiff]
    refine fun w' hw' => PRet.fall (K ++ [oTp b2 0 0 0 0 none 0 0]) (by rw [pTyped, hr, PR.and_no]) (fun b hb => ?_) (by simpa only [List.append_assoc, List.singleton_append] using hw')
    rcases List.mem_append.1 hb with hb | hb
    · exact hK b hb
    · rw [List.mem_singleton.1 hb]; exact hb2
  have e1 := hS.1
  have e2 := hS.2
  subst e1
  subst e2
  have hble : blP s p ≤ s.length := runP_le hQ.hp
  have g1 := pKind_le hble hr
  have hkk : 1 ≤ k ∧ k ≤ 20 := by
    obtain ⟨x, r, h1, h2⟩ := PR.and_eq_ok hr
    split at h2
    · rename_i h3
      cases h2
      have := kindW_word h3.1
      omega
    · cases h2
  simp (disch := omega) only [push_cast, Nat.reduceEqDiff]
  refine newI (fun b4 hb4 hn4 => ?_)
  simp (disch := omega) only [push_cast, Nat.reduceEqDiff]
  refine storeX 0 rfl Siz.eq rfl rfl (by simp [Value.oneCell']) (by simp) ?_
  simp (disch := omega) only [push_cast, Nat.reduceEqDiff]
  refine ldOne Shp.eq mem0 rfl ?_
  simp (disch := omega) only [push_cast, Nat.reduceEqDiff]
  have hX : ∀ (o4 o2 : Obj), ∀ b ∈ (b4, o4) :: (b2, o2) :: M, wb.heap.size ≤ b.1 := fun o4 o2 b hb => by
    rcases List.mem_cons.1 hb with rfl | hb
    · exact hb4
    · exact hM1 _ b hb
  have hpre : ¬ k < 14 → ∀ r, (pMust s 40 q) = r → pTyped s (pField s d) (blP s p) = r.and fun _ r => (pInner s (pField s d) k r).and fun t r => (pMust s 41 r).and fun _ r => .ok t r := fun h r hr2 => by
    rw [pTyped, hr, PR.and_ok, if_neg h, hr2]
  refine cutV (Ty0 wb rb s M b2 b4 k q) ?_ ?_
  · rw [V_block]
    simp (disch := omega) only [push_cast, Nat.reduceEqDiff]
    by_cases hk14 : k < 14
    · repeat ((try rw [V_cond]); (try simp (disch := omega) only [push_cast, Nat.reduceEqDiff]); (refine condX_d (fun h9 => ?_) (fun h9 => ?_) <;> first | (exfalso; first | omega | exact h9 trivial) | ((try clear h9); try simp (disch := omega) only [push_cast, Nat.reduceEqDiff])))
      refine loadX_agg Shp.eq mem0 rfl rfl ?_
      simp (disch := omega) only [push_cast, Nat.reduceEqDiff]
      refine storeX 2 rfl Siz.eq rfl rfl (by simp [Value.oneCell']) (by simp) ?_
      simp (disch := omega) only [push_cast, Nat.reduceEqDiff]
      refine loadX_agg Shp.eq mem2 rfl rfl ?_
      simp (disch := omega) only [push_cast, Nat.reduceEqDiff]
      refine fun w' hw' => PRet.leaf (S := fun x _ v K => TypeV x v K) _ p1 [] (x := ⟨k, 0, 0, 0, []⟩) (q := q) (by rw [pTyped, hr, PR.and_ok, if_pos hk14]) hq hp1 ⟨none, 0, none, 0, [], [], rfl, rfl, ows_nil, owps_nil⟩ (by simp) ?_
      exact hw'.drop13 hb4 hb2
    have hkc : k = 14 ∨ k = 15 ∨ k = 16 ∨ k = 17 ∨ k = 18 ∨ k = 19 ∨ k = 20 := by omega
    rcases hkc with hk | hk | hk | hk | hk | hk | hk
    all_goals
      repeat ((try rw [V_cond]); (try simp (disch := omega) only [push_cast, Nat.reduceEqDiff]); (refine condX_d (fun h9 => ?_) (fun h9 => ?_) <;> first | (exfalso; first | omega | exact h9 trivial) | ((try clear h9); try simp (disch := omega) only [push_cast, Nat.reduceEqDiff])))
      refine callV en_55 (callX_pr (fun w' hw' => must_walk wb w' rb s p1 (oTp b4 k 0 0 0 none 0 0 :: oTp b2 0 0 0 0 none 0 0 :: M) 40 40 rfl hs hp1 hrb (hw'.perm (List.Perm.swap _ _ _))) (fun u q2 v p2 K hr2 hq2 hp2 hS2 hK2 => ?_) (fun q2 K hr2 hK2 => ?_))
      · have e1 := hS2.1
        have e2 := hS2.2
        subst e1
        subst e2
        simp (disch := omega) only [push_cast, Nat.reduceEqDiff]
        exact ⟨rfl, rfl, rfl, rfl, rfl, rfl, hk14, p2, q2, by rw [← hq]; exact hr2, hq2, hp2, rfl⟩
      · simp (disch := omega) only [push_cast, Nat.reduceEqDiff]
        refine fun w' hw' => PRet.fall (K ++ [oTp b4 k 0 0 0 none 0 0, oTp b2 0 0 0 0 none 0 0]) (by rw [hpre hk14 (.no q2) (by rw [← hq]; exact hr2), PR.and_no]) (fun b hb => ?_) (by simpa only [List.append_assoc, List.cons_append, List.nil_append] using hw')
        rcases List.mem_append.1 hb with hb | hb
        · exact hK2 b hb
        · simp only [List.mem_cons, List.mem_nil_iff, or_false] at hb
          rcases hb with rfl | rfl
          · exact hb4
          · exact hb2
  rintro wb e ds L ⟨rfl, rfl, h0, h2, h4, h5, hk14, p2, q2, hr2, hq2, hp2, rfl⟩
  have hpm := hpre hk14 (.ok () q2) hr2
  rw [PR.and_ok] at hpm
  have g2 := pSign_le (pMust_ok hr2)
  have hfall : ∀ (q3 : Nat) (K : Own) (o4 o2 : Obj), (∀ b ∈ K, wb.heap.size ≤ b.1) → pInner s (pField s d) k q2 = .no q3 → ∀ w', Sy wb (K ++ ((b4, o4) :: (b2, o2) :: M)) w' → PRet wb rb s M (pTyped s (pField s d) (blP s p)) (fun x _ v K => TypeV x v K) (.panicked [faultE q3]) w' := fun q3 K o4 o2 hK3 h3 w' hw' => by
    refine PRet.fall (K ++ [(b4, o4), (b2, o2)]) (by rw [hpm, h3, PR.and_no]) (fun b hb => ?_) (by simpa only [List.append_assoc, List.cons_append, List.nil_append] using hw')
    rcases List.mem_append.1 hb with hb | hb
    · exact hK3 b hb
    · simp only [List.mem_cons, List.mem_nil_iff, or_false] at hb
      rcases hb with rfl | rfl
      · exact hb4
      · exact hb2
  simp (disch := omega) only [push_cast, Nat.reduceEqDiff, h0, h2, h4, h5]
  refine ldOne Shp.eq mem1 rfl ?_
  simp (disch := omega) only [push_cast, Nat.reduceEqDiff, h0, h2, h4, h5]
  refine cutV (TyI wb rb s M b2 b4 d k q2) ?_ ?_
  · rw [V_block]
    simp (disch := omega) only [push_cast, Nat.reduceEqDiff, h0, h2, h4, h5]
    have hkc : k = 14 ∨ k = 15 ∨ k = 16 ∨ k = 17 ∨ k = 18 ∨ k = 19 ∨ k = 20 := by omega
    rcases hkc with hk | hk | hk | hk | hk | hk | hk
    · subst hk
      repeat ((try rw [V_cond]); (try simp (disch := omega) only [push_cast, Nat.reduceEqDiff, h0, h2, h4, h5]); (refine condX_d (fun h9 => ?_) (fun h9 => ?_) <;> first | (exfalso; first | omega | exact h9 trivial) | ((try clear h9); try simp (disch := omega) only [push_cast, Nat.reduceEqDiff, h0, h2, h4, h5])))
      refine callV en_62 (callX_pr (fun w' hw' => number_walk wb w' hQ.lib rb s p2 _ hs hp2 hrb (hX _ _) hw') (fun n q3 v p3 K hrq3 hqq3 hpq3 hSq3 hKq3 => ?_) (fun q3 K hrq3 hKq3 => ?_))
      rotate_left
      · simp (disch := omega) only [push_cast, Nat.reduceEqDiff, h0, h2, h4, h5]
        exact hfall q3 K _ _ hKq3 (by rw [pInner_14, ← hq2, hrq3]; rfl)
      have e1 := hSq3.1
      have e2 := hSq3.2
      subst e1
      subst e2
      simp (disch := omega) only [push_cast, Nat.reduceEqDiff, h0, h2, h4, h5]
      refine storeX 1 rfl Siz.eq rfl rfl (by simp [Value.oneCell']) (by simp) ?_
      simp (disch := omega) only [push_cast, Nat.reduceEqDiff, h0, h2, h4, h5]
      exact ⟨rfl, rfl, h0, h2, h4, ⟨14, n, 0, 0, []⟩, p3, none, 0, none, 0, [], [], by rw [pInner_14, ← hq2, hrq3, PR.and_ok, hqq3], hpq3, h5, ows_nil, owps_nil, by simp, rfl⟩
    · subst hk
      repeat ((try rw [V_cond]); (try simp (disch := omega) only [push_cast, Nat.reduceEqDiff, h0, h2, h4, h5]); (refine condX_d (fun h9 => ?_) (fun h9 => ?_) <;> first | (exfalso; first | omega | exact h9 trivial) | ((try clear h9); try simp (disch := omega) only [push_cast, Nat.reduceEqDiff, h0, h2, h4, h5])))
      refine callV en_63 (callX_pr (fun w' hw' => hO wb w' rb s p2 _ ⟨hs, hQ.says, hQ.lib, hp2, hrb, hX _ _, hw'⟩ (by have := runP_ge blankB s p2; unfold blP at *; omega)) (fun l q3 v p3 K hrq3 hqq3 hpq3 hSq3 hKq3 => ?_) (fun q3 K hrq3 hKq3 => ?_))
      rotate_left
      · simp (disch := omega) only [push_cast, Nat.reduceEqDiff, h0, h2, h4, h5]
        exact hfall q3 K _ _ hKq3 (by rw [pInner_15, ← hq2, hrq3]; rfl)
      (refine Exists.elim (hSq3) (fun a hz => Exists.elim hz (fun c hz => Exists.elim hz (fun a2 hz => Exists.elim hz (fun c2 hz => Exists.elim hz (fun Ka hz => Exists.elim hz (fun Kb hz => ?_)))))); have ez := hz.1; subst ez; have ez := hz.2.1; subst ez; have hO1 := hz.2.2.1; have hO2 := hz.2.2.2; clear hz)
      simp (disch := omega) only [push_cast, Nat.reduceEqDiff, h0, h2, h4, h5]
      refine storeX_weak (L' := oRd rb s p3 :: oTp b4 15 0 0 0 none 0 0 :: oTp b2 0 0 0 0 none 0 0 :: ((Ka ++ Kb) ++ M)) (fun w hw => hw.perm (?_ : List.Perm (oRd rb s p3 :: ((Ka ++ Kb) ++ (oTp b4 15 0 0 0 none 0 0 :: oTp b2 0 0 0 0 none 0 0 :: M))) _)) (storeX 1 rfl Siz.eq rfl rfl (by simp [Value.oneCell']) (by simp) ?_)
      · exact permC fun f => by simp only [wt_append, wt_cons, wt_nil]; omega
      simp (disch := omega) only [push_cast, Nat.reduceEqDiff, h0, h2, h4, h5]
      exact ⟨rfl, rfl, h0, h2, h4, ⟨15, 0, 0, 0, l⟩, p3, a, c, a2, c2, Ka, Kb, by rw [pInner_15, ← hq2, hrq3, PR.and_ok, hqq3], hpq3, rfl, hO1, hO2, hKq3, rfl⟩
    · subst hk
      repeat ((try rw [V_cond]); (try simp (disch := omega) only [push_cast, Nat.reduceEqDiff, h0, h2, h4, h5]); (refine condX_d (fun h9 => ?_) (fun h9 => ?_) <;> first | (exfalso; first | omega | exact h9 trivial) | ((try clear h9); try simp (disch := omega) only [push_cast, Nat.reduceEqDiff, h0, h2, h4, h5])))
      refine callV en_62 (callX_pr (fun w' hw' => number_walk wb w' hQ.lib rb s p2 _ hs hp2 hrb (hX _ _) hw') (fun n q3 v p3 K hrq3 hqq3 hpq3 hSq3 hKq3 => ?_) (fun q3 K hrq3 hKq3 => ?_))
      rotate_left
      · simp (disch := omega) only [push_cast, Nat.reduceEqDiff, h0, h2, h4, h5]
        exact hfall q3 K _ _ hKq3 (by rw [pInner_16, ← hq2, hrq3]; rfl)
      have e1 := hSq3.1
      have e2 := hSq3.2
      subst e1
      subst e2
      simp (disch := omega) only [push_cast, Nat.reduceEqDiff, h0, h2, h4, h5]
      refine storeX 1 rfl Siz.eq rfl rfl (by simp [Value.oneCell']) (by simp) ?_
      simp (disch := omega) only [push_cast, Nat.reduceEqDiff, h0, h2, h4, h5]
      have n1 := pNum_le (by rw [hq2]; exact g2.2.1) hrq3
      refine callV en_55 (callX_pr (fun w' hw' => must_walk wb w' rb s p3 _ 44 44 rfl hs hpq3 hrb hw') (fun _ q4 v p4 K hrq4 hqq4 hpq4 hSq4 hKq4 => ?_) (fun q4 K hrq4 hKq4 => ?_))
      rotate_left
      · simp (disch := omega) only [push_cast, Nat.reduceEqDiff, h0, h2, h4, h5]
        exact hfall q4 K _ _ hKq4 (by rw [pInner_16, ← hq2, hrq3, PR.and_ok, ← hqq3, hrq4]; rfl)
      have e1 := hSq4.1
      have e2 := hSq4.2
      subst e1
      subst e2
      simp (disch := omega) only [push_cast, Nat.reduceEqDiff, h0, h2, h4, h5]
      have n2 := pSign_le (pMust_ok hrq4)
      refine callV en_63 (callX_pr (fun w' hw' => hO wb w' rb s p4 _ ⟨hs, hQ.says, hQ.lib, hpq4, hrb, hX _ _, hw'⟩ (by omega)) (fun l q5 v p5 K hrq5 hqq5 hpq5 hSq5 hKq5 => ?_) (fun q5 K hrq5 hKq5 => ?_))
      rotate_left
      · simp (disch := omega) only [push_cast, Nat.reduceEqDiff, h0, h2, h4, h5]
        exact hfall q5 K _ _ hKq5 (by rw [pInner_16, ← hq2, hrq3, PR.and_ok, ← hqq3, hrq4, PR.and_ok, ← hqq4, hrq5]; rfl)
      (refine Exists.elim (hSq5) (fun a hz => Exists.elim hz (fun c hz => Exists.elim hz (fun a2 hz => Exists.elim hz (fun c2 hz => Exists.elim hz (fun Ka hz => Exists.elim hz (fun Kb hz => ?_)))))); have ez := hz.1; subst ez; have ez := hz.2.1; subst ez; have hO1 := hz.2.2.1; have hO2 := hz.2.2.2; clear hz)
      simp (disch := omega) only [push_cast, Nat.reduceEqDiff, h0, h2, h4, h5]
      refine storeX_weak (L' := oRd rb s p5 :: oTp b4 16 n 0 0 none 0 0 :: oTp b2 0 0 0 0 none 0 0 :: ((Ka ++ Kb) ++ M)) (fun w hw => hw.perm (?_ : List.Perm (oRd rb s p5 :: ((Ka ++ Kb) ++ (oTp b4 16 n 0 0 none 0 0 :: oTp b2 0 0 0 0 none 0 0 :: M))) _)) (storeX 1 rfl Siz.eq rfl rfl (by simp [Value.oneCell']) (by simp) ?_)
      · exact permC fun f => by simp only [wt_append, wt_cons, wt_nil]; omega
      simp (disch := omega) only [push_cast, Nat.reduceEqDiff, h0, h2, h4, h5]
      exact ⟨rfl, rfl, h0, h2, h4, ⟨16, n, 0, 0, l⟩, p5, a, c, a2, c2, Ka, Kb, by rw [pInner_16, ← hq2, hrq3, PR.and_ok, ← hqq3, hrq4, PR.and_ok, ← hqq4, hrq5, PR.and_ok, hqq5], hpq5, rfl, hO1, hO2, hKq5, rfl⟩
    · subst hk
      repeat ((try rw [V_cond]); (try simp (disch := omega) only [push_cast, Nat.reduceEqDiff, h0, h2, h4, h5]); (refine condX_d (fun h9 => ?_) (fun h9 => ?_) <;> first | (exfalso; first | omega | exact h9 trivial) | ((try clear h9); try simp (disch := omega) only [push_cast, Nat.reduceEqDiff, h0, h2, h4, h5])))
      refine callV en_21 (callX_base (fun w' hw' => is_walk wb w' rb s p2 _ 41 41 rfl hs hp2 hw') ?_)
      rintro e' w' ⟨rfl, q1⟩
      refine ⟨_, _, rfl, q1, ?_⟩
      clear q1
      simp (disch := omega) only [push_cast, Nat.reduceEqDiff, h0, h2, h4, h5]
      rw [V_cond]
      simp (disch := omega) only [push_cast, Nat.reduceEqDiff, h0, h2, h4, h5]
      have hle2 : blP s p2 ≤ s.length := runP_le hp2
      have hidem : blP s (blP s p2) = blP s p2 := runP_idem _ _ _
      refine condX_b (fun hb => ?_) (fun hb => ?_)
      · have h41 : s[blP s p2]? ≠ some 41 := by simpa using hb
        simp (disch := omega) only [push_cast, Nat.reduceEqDiff, h0, h2, h4, h5]
        refine callV en_22 (callX_pr (fun w' hw' => hMa wb w' rb s (blP s p2) _ ⟨hs, hQ.says, hQ.lib, hle2, hrb, hX _ _, hw'⟩ (by rw [hidem]; omega)) (fun l q3 v p3 K hrq3 hqq3 hpq3 hSq3 hKq3 => ?_) (fun q3 K hrq3 hKq3 => ?_))
        rotate_left
        · simp (disch := omega) only [push_cast, Nat.reduceEqDiff, h0, h2, h4, h5]
          exact hfall q3 K _ _ hKq3 (by rw [pInner_17, ← hq2, if_neg h41, ← hidem, hrq3]; rfl)
        (refine Exists.elim (hSq3) (fun a hz => Exists.elim hz (fun c hz => Exists.elim hz (fun a2 hz => Exists.elim hz (fun c2 hz => Exists.elim hz (fun Ka hz => Exists.elim hz (fun Kb hz => ?_)))))); have ez := hz.1; subst ez; have ez := hz.2.1; subst ez; have hO1 := hz.2.2.1; have hO2 := hz.2.2.2; clear hz)
        simp (disch := omega) only [push_cast, Nat.reduceEqDiff, h0, h2, h4, h5]
        refine storeX_weak (L' := oRd rb s p3 :: oTp b4 17 0 0 0 none 0 0 :: oTp b2 0 0 0 0 none 0 0 :: ((Ka ++ Kb) ++ M)) (fun w hw => hw.perm (?_ : List.Perm (oRd rb s p3 :: ((Ka ++ Kb) ++ (oTp b4 17 0 0 0 none 0 0 :: oTp b2 0 0 0 0 none 0 0 :: M))) _)) (storeX 1 rfl Siz.eq rfl rfl (by simp [Value.oneCell']) (by simp) ?_)
        · exact permC fun f => by simp only [wt_append, wt_cons, wt_nil]; omega
        simp (disch := omega) only [push_cast, Nat.reduceEqDiff, h0, h2, h4, h5]
        exact ⟨rfl, rfl, h0, h2, h4, ⟨17, 0, 0, 0, l⟩, p3, a, c, a2, c2, Ka, Kb, by rw [pInner_17, ← hq2, if_neg h41, ← hidem, hrq3, PR.and_ok, hqq3], hpq3, rfl, hO1, hO2, hKq3, rfl⟩
      · have h41 : s[blP s p2]? = some 41 := by simpa using hb
        simp (disch := omega) only [push_cast, Nat.reduceEqDiff, h0, h2, h4, h5]
        exact ⟨rfl, rfl, h0, h2, h4, ⟨17, 0, 0, 0, []⟩, blP s p2, none, 0, none, 0, [], [], by rw [pInner_17, ← hq2, if_pos h41, hidem], hle2, h5, ows_nil, owps_nil, by simp, rfl⟩
    · subst hk
      repeat ((try rw [V_cond]); (try simp (disch := omega) only [push_cast, Nat.reduceEqDiff, h0, h2, h4, h5]); (refine condX_d (fun h9 => ?_) (fun h9 => ?_) <;> first | (exfalso; first | omega | exact h9 trivial) | ((try clear h9); try simp (disch := omega) only [push_cast, Nat.reduceEqDiff, h0, h2, h4, h5])))
      refine callV en_22 (callX_pr (fun w' hw' => hMa wb w' rb s p2 _ ⟨hs, hQ.says, hQ.lib, hp2, hrb, hX _ _, hw'⟩ (by have := runP_ge blankB s p2; unfold blP at *; omega)) (fun l q3 v p3 K hrq3 hqq3 hpq3 hSq3 hKq3 => ?_) (fun q3 K hrq3 hKq3 => ?_))
      rotate_left
      · simp (disch := omega) only [push_cast, Nat.reduceEqDiff, h0, h2, h4, h5]
        exact hfall q3 K _ _ hKq3 (by rw [pInner_18, ← hq2, hrq3]; rfl)
      (refine Exists.elim (hSq3) (fun a hz => Exists.elim hz (fun c hz => Exists.elim hz (fun a2 hz => Exists.elim hz (fun c2 hz => Exists.elim hz (fun Ka hz => Exists.elim hz (fun Kb hz => ?_)))))); have ez := hz.1; subst ez; have ez := hz.2.1; subst ez; have hO1 := hz.2.2.1; have hO2 := hz.2.2.2; clear hz)
      simp (disch := omega) only [push_cast, Nat.reduceEqDiff, h0, h2, h4, h5]
      refine storeX_weak (L' := oRd rb s p3 :: oTp b4 18 0 0 0 none 0 0 :: oTp b2 0 0 0 0 none 0 0 :: ((Ka ++ Kb) ++ M)) (fun w hw => hw.perm (?_ : List.Perm (oRd rb s p3 :: ((Ka ++ Kb) ++ (oTp b4 18 0 0 0 none 0 0 :: oTp b2 0 0 0 0 none 0 0 :: M))) _)) (storeX 1 rfl Siz.eq rfl rfl (by simp [Value.oneCell']) (by simp) ?_)
      · exact permC fun f => by simp only [wt_append, wt_cons, wt_nil]; omega
      simp (disch := omega) only [push_cast, Nat.reduceEqDiff, h0, h2, h4, h5]
      exact ⟨rfl, rfl, h0, h2, h4, ⟨18, 0, 0, 0, l⟩, p3, a, c, a2, c2, Ka, Kb, by rw [pInner_18, ← hq2, hrq3, PR.and_ok, hqq3], hpq3, rfl, hO1, hO2, hKq3, rfl⟩
    · subst hk
      repeat ((try rw [V_cond]); (try simp (disch := omega) only [push_cast, Nat.reduceEqDiff, h0, h2, h4, h5]); (refine condX_d (fun h9 => ?_) (fun h9 => ?_) <;> first | (exfalso; first | omega | exact h9 trivial) | ((try clear h9); try simp (disch := omega) only [push_cast, Nat.reduceEqDiff, h0, h2, h4, h5])))
      refine callV en_62 (callX_pr (fun w' hw' => number_walk wb w' hQ.lib rb s p2 _ hs hp2 hrb (hX _ _) hw') (fun n q3 v p3 K hrq3 hqq3 hpq3 hSq3 hKq3 => ?_) (fun q3 K hrq3 hKq3 => ?_))
      rotate_left
      · simp (disch := omega) only [push_cast, Nat.reduceEqDiff, h0, h2, h4, h5]
        exact hfall q3 K _ _ hKq3 (by rw [pInner_19, ← hq2, hrq3]; rfl)
      have e1 := hSq3.1
      have e2 := hSq3.2
      subst e1
      subst e2
      simp (disch := omega) only [push_cast, Nat.reduceEqDiff, h0, h2, h4, h5]
      refine storeX 1 rfl Siz.eq rfl rfl (by simp [Value.oneCell']) (by simp) ?_
      simp (disch := omega) only [push_cast, Nat.reduceEqDiff, h0, h2, h4, h5]
      have n1 := pNum_le (by rw [hq2]; exact g2.2.1) hrq3
      refine callV en_55 (callX_pr (fun w' hw' => must_walk wb w' rb s p3 _ 44 44 rfl hs hpq3 hrb hw') (fun _ q4 v p4 K hrq4 hqq4 hpq4 hSq4 hKq4 => ?_) (fun q4 K hrq4 hKq4 => ?_))
      rotate_left
      · simp (disch := omega) only [push_cast, Nat.reduceEqDiff, h0, h2, h4, h5]
        exact hfall q4 K _ _ hKq4 (by rw [pInner_19, ← hq2, hrq3, PR.and_ok, ← hqq3, hrq4]; rfl)
      have e1 := hSq4.1
      have e2 := hSq4.2
      subst e1
      subst e2
      simp (disch := omega) only [push_cast, Nat.reduceEqDiff, h0, h2, h4, h5]
      have n2 := pSign_le (pMust_ok hrq4)
      refine callV en_61 (callX_pr (fun w' hw' => kind_walk wb w' hQ.says rb s p4 _ 64 saysIdx (by kernel_rfl) index_lets hs hpq4 hrb (hX _ _) hw') (fun ix q5 v p5 K hrq5 hqq5 hpq5 hSq5 hKq5 => ?_) (fun q5 K hrq5 hKq5 => ?_))
      rotate_left
      · simp (disch := omega) only [push_cast, Nat.reduceEqDiff, h0, h2, h4, h5]
        exact hfall q5 K _ _ hKq5 (by rw [pInner_19, ← hq2, hrq3, PR.and_ok, ← hqq3, hrq4, PR.and_ok, ← hqq4, hrq5]; rfl)
      have e1 := hSq5.1
      have e2 := hSq5.2
      subst e1
      subst e2
      simp (disch := omega) only [push_cast, Nat.reduceEqDiff, h0, h2, h4, h5]
      refine storeX 1 rfl Siz.eq rfl rfl (by simp [Value.oneCell']) (by simp) ?_
      simp (disch := omega) only [push_cast, Nat.reduceEqDiff, h0, h2, h4, h5]
      have n3 := pKind_le (by rw [hqq4]; exact n2.2.1) hrq5
      refine callV en_55 (callX_pr (fun w' hw' => must_walk wb w' rb s p5 _ 44 44 rfl hs hpq5 hrb hw') (fun _ q6 v p6 K hrq6 hqq6 hpq6 hSq6 hKq6 => ?_) (fun q6 K hrq6 hKq6 => ?_))
      rotate_left
      · simp (disch := omega) only [push_cast, Nat.reduceEqDiff, h0, h2, h4, h5]
        exact hfall q6 K _ _ hKq6 (by rw [pInner_19, ← hq2, hrq3, PR.and_ok, ← hqq3, hrq4, PR.and_ok, ← hqq4, hrq5, PR.and_ok, ← hqq5, hrq6]; rfl)
      have e1 := hSq6.1
      have e2 := hSq6.2
      subst e1
      subst e2
      simp (disch := omega) only [push_cast, Nat.reduceEqDiff, h0, h2, h4, h5]
      have n4 := pSign_le (pMust_ok hrq6)
      refine callV en_63 (callX_pr (fun w' hw' => hO wb w' rb s p6 _ ⟨hs, hQ.says, hQ.lib, hpq6, hrb, hX _ _, hw'⟩ (by omega)) (fun l q7 v p7 K hrq7 hqq7 hpq7 hSq7 hKq7 => ?_) (fun q7 K hrq7 hKq7 => ?_))
      rotate_left
      · simp (disch := omega) only [push_cast, Nat.reduceEqDiff, h0, h2, h4, h5]
        exact hfall q7 K _ _ hKq7 (by rw [pInner_19, ← hq2, hrq3, PR.and_ok, ← hqq3, hrq4, PR.and_ok, ← hqq4, hrq5, PR.and_ok, ← hqq5, hrq6, PR.and_ok, ← hqq6, hrq7]; rfl)
      (refine Exists.elim (hSq7) (fun a hz => Exists.elim hz (fun c hz => Exists.elim hz (fun a2 hz => Exists.elim hz (fun c2 hz => Exists.elim hz (fun Ka hz => Exists.elim hz (fun Kb hz => ?_)))))); have ez := hz.1; subst ez; have ez := hz.2.1; subst ez; have hO1 := hz.2.2.1; have hO2 := hz.2.2.2; clear hz)
      simp (disch := omega) only [push_cast, Nat.reduceEqDiff, h0, h2, h4, h5]
      refine storeX_weak (L' := oRd rb s p7 :: oTp b4 19 0 n ix none 0 0 :: oTp b2 0 0 0 0 none 0 0 :: ((Ka ++ Kb) ++ M)) (fun w hw => hw.perm (?_ : List.Perm (oRd rb s p7 :: ((Ka ++ Kb) ++ (oTp b4 19 0 n ix none 0 0 :: oTp b2 0 0 0 0 none 0 0 :: M))) _)) (storeX 1 rfl Siz.eq rfl rfl (by simp [Value.oneCell']) (by simp) ?_)
      · exact permC fun f => by simp only [wt_append, wt_cons, wt_nil]; omega
      simp (disch := omega) only [push_cast, Nat.reduceEqDiff, h0, h2, h4, h5]
      exact ⟨rfl, rfl, h0, h2, h4, ⟨19, 0, n, ix, l⟩, p7, a, c, a2, c2, Ka, Kb, by rw [pInner_19, ← hq2, hrq3, PR.and_ok, ← hqq3, hrq4, PR.and_ok, ← hqq4, hrq5, PR.and_ok, ← hqq5, hrq6, PR.and_ok, ← hqq6, hrq7, PR.and_ok, hqq7], hpq7, rfl, hO1, hO2, hKq7, rfl⟩
    · subst hk
      repeat ((try rw [V_cond]); (try simp (disch := omega) only [push_cast, Nat.reduceEqDiff, h0, h2, h4, h5]); (refine condX_d (fun h9 => ?_) (fun h9 => ?_) <;> first | (exfalso; first | omega | exact h9 trivial) | ((try clear h9); try simp (disch := omega) only [push_cast, Nat.reduceEqDiff, h0, h2, h4, h5])))
      refine callV en_63 (callX_pr (fun w' hw' => hO wb w' rb s p2 _ ⟨hs, hQ.says, hQ.lib, hp2, hrb, hX _ _, hw'⟩ (by have := runP_ge blankB s p2; unfold blP at *; omega)) (fun l q3 v p3 K hrq3 hqq3 hpq3 hSq3 hKq3 => ?_) (fun q3 K hrq3 hKq3 => ?_))
      rotate_left
      · simp (disch := omega) only [push_cast, Nat.reduceEqDiff, h0, h2, h4, h5]
        exact hfall q3 K _ _ hKq3 (by rw [pInner_20, ← hq2, hrq3]; rfl)
      (refine Exists.elim (hSq3) (fun a hz => Exists.elim hz (fun c hz => Exists.elim hz (fun a2 hz => Exists.elim hz (fun c2 hz => Exists.elim hz (fun Ka hz => Exists.elim hz (fun Kb hz => ?_)))))); have ez := hz.1; subst ez; have ez := hz.2.1; subst ez; have hO1 := hz.2.2.1; have hO2 := hz.2.2.2; clear hz)
      simp (disch := omega) only [push_cast, Nat.reduceEqDiff, h0, h2, h4, h5]
      refine storeX_weak (L' := oRd rb s p3 :: oTp b4 20 0 0 0 none 0 0 :: oTp b2 0 0 0 0 none 0 0 :: ((Ka ++ Kb) ++ M)) (fun w hw => hw.perm (?_ : List.Perm (oRd rb s p3 :: ((Ka ++ Kb) ++ (oTp b4 20 0 0 0 none 0 0 :: oTp b2 0 0 0 0 none 0 0 :: M))) _)) (storeX 1 rfl Siz.eq rfl rfl (by simp [Value.oneCell']) (by simp) ?_)
      · exact permC fun f => by simp only [wt_append, wt_cons, wt_nil]; omega
      simp (disch := omega) only [push_cast, Nat.reduceEqDiff, h0, h2, h4, h5]
      exact ⟨rfl, rfl, h0, h2, h4, ⟨20, 0, 0, 0, l⟩, p3, a, c, a2, c2, Ka, Kb, by rw [pInner_20, ← hq2, hrq3, PR.and_ok, hqq3], hpq3, rfl, hO1, hO2, hKq3, rfl⟩
  rintro wb e ds L ⟨rfl, rfl, h0, h2, h4, t, p3, a, c, a2, c2, K1, K2, hr3, hp3, h5, hO1, hO2, hKn, rfl⟩
  simp (disch := omega) only [push_cast, Nat.reduceEqDiff, h0, h2, h4, h5]
  refine callV en_55 (callX_pr (fun w' hw' => must_walk wb w' rb s p3 _ 41 41 rfl hs hp3 hrb hw') (fun u q4 v p4 K hr4 hq4 hp4 hS4 hK4 => ?_) (fun q4 K hr4 hK4 => ?_))
  rotate_left
  · simp (disch := omega) only [push_cast, Nat.reduceEqDiff, h0, h2, h4, h5]
    refine fun w' hw' => PRet.fall (K ++ ([oTp b4 t.k t.wd t.id t.ix a t.l.length c, oTp b2 0 0 0 0 none 0 0] ++ (K1 ++ K2))) (by rw [hpm, hr3, PR.and_ok, hr4, PR.and_no]) (fun b hb => ?_) (by simpa only [List.append_assoc, List.cons_append, List.nil_append] using hw')
    simp only [List.mem_append, List.mem_cons, List.mem_nil_iff, or_false] at hb hKn
    rcases hb with hb | (rfl | rfl) | hb
    · exact hK4 b hb
    · exact hb4
    · exact hb2
    · exact hKn b hb
  have e1 := hS4.1
  have e2 := hS4.2
  subst e1
  subst e2
  simp (disch := omega) only [push_cast, Nat.reduceEqDiff, h0, h2, h4, h5]
  refine loadX_agg Shp.eq mem1 rfl rfl ?_
  simp (disch := omega) only [push_cast, Nat.reduceEqDiff, h0, h2, h4, h5]
  refine storeX 2 rfl Siz.eq rfl rfl (by simp [Value.oneCell']) (by simp) ?_
  simp (disch := omega) only [push_cast, Nat.reduceEqDiff, h0, h2, h4, h5]
  refine loadX_agg Shp.eq mem2 rfl rfl ?_
  simp (disch := omega) only [push_cast, Nat.reduceEqDiff, h0, h2, h4, h5]
  refine fun w' hw' => PRet.leaf (S := fun x _ v K => TypeV x v K) _ p4 (K1 ++ K2) (x := t) (q := q4) (by rw [hpm, hr3, PR.and_ok, hr4, PR.and_ok]) hq4 hp4 ⟨a, c, a2, c2, K1, K2, rfl, rfl, hO1, hO2⟩ hKn ?_
  exact hw'.mid [_] [_, _] (fun b hb => by
    simp only [List.mem_cons, List.mem_nil_iff, or_false] at hb
    rcases hb with rfl | rfl
    · exact hb4
    · exact hb2)
end Go.Proofs.YtdmdgkpjjpijdaaDoor
/- YtdmdgkpjjpijdaaDoor: walks, part 171: a reader: fields. -/
namespace Go.Proofs.YtdmdgkpjjpijdaaDoor
open Go Go.K
set_option maxRecDepth 100000
set_option linter.unusedVariables false
set_option linter.unusedSimpArgs false
set_option maxHeartbeats 4000000
theorem mk_field {nm : List UInt8} {nl : Bool} {t : Ty} {q : Nat} {K1 K2 : Own} {a a2 : Option Addr} {c c2 : Nat} (hn : nm.length ≤ 9223372036854775807) (hq : q ≤ 1000000) (h1 : OwS (t.l.map (·.1)) K1 a c) (h2 : OwPS (t.l.map (·.2)) K2 a2 c2) :
    FieldV (mkF nm nl t q) (.tuple #[.agg #[str nm, .bool nl, i64 t.k, i64 t.wd, i64 t.id, i64 t.ix, .slice a t.l.length c], .agg #[i64 q, .slice a2 t.l.length c2]]) (K1 ++ K2) := by
  refine ⟨a, c, a2, c2, K1, K2, ?_, rfl, OwS.toF (f := (mkF nm nl t q).1) h1 hn, OwPS.toP (x := (mkF nm nl t q).2) h2 hq⟩
  simp [mkF, Fld.cells, Fld.nm, Fld.nl, Fld.k, Fld.wd, Fld.id, Fld.ix, Fld.sub, Sp.at_, Sp.kids]
theorem field_step (d : Nat) (hT : TypeOK d) : FieldOK (d + 1) := by
  intro wb w rb s p M hQ hd
  have hs := hQ.hs
  have hrb := hQ.hrb
  refine enterB (args := [.pointer (some ⟨rb, 0, none⟩)]) Tryd.func35 rfl Tryd.ntmps35 (congrArg Array.toList Tryd.results35) (by kernel_rfl) (by simp) hQ.hw ?_
  simp (disch := omega) only [push_cast, Nat.reduceEqDiff]
  refine newI (fun b2 hb2 hn2 => ?_)
  simp (disch := omega) only [push_cast, Nat.reduceEqDiff]
  refine newI (fun b3 hb3 hn3 => ?_)
  simp (disch := omega) only [push_cast, Nat.reduceEqDiff]
  have hble : blP s p ≤ s.length := runP_le hQ.hp
  refine callV en_52 (callX_pr (fun w' hw' => word_walk wb w' rb s p (oSp b3 0 none 0 0 :: oFi b2 (.mk [] false 0 0 0 0 []) none 0 :: M) hs hQ.hp hrb (hw'.perm (?_ : List.Perm (oSp b3 0 none 0 0 :: oFi b2 (.mk [] false 0 0 0 0 []) none 0 :: oRd rb s p :: M) _))) (fun nm q v p1 K hr hq hp1 hS hK => ?_) (fun q K hr hK => ?_))
  · exact permC fun f => by simp only [wt_append, wt_cons, wt_nil]; omega
  rotate_left
  · simp (disch := omega) only [push_cast, Nat.reduceEqDiff]
    refine fun w' hw' => PRet.fall (K ++ [oSp b3 0 none 0 0, oFi b2 (.mk [] false 0 0 0 0 []) none 0]) (by rw [pField, hr, PR.and_no]) (fun b hb => ?_) (by simpa only [List.append_assoc, List.cons_append, List.nil_append] using hw')
    simp only [List.mem_append, List.mem_cons, List.mem_nil_iff, or_false] at hb
    rcases hb with hb | rfl | rfl
    · exact hK b hb
    · exact hb3
    · exact hb2
  have e1 := hS.1
  have e2 := hS.2
  subst e1
  subst e2
  have g1 := pWord_le hble hr
  have hnm := word_ne hr
  simp (disch := omega) only [push_cast, Nat.reduceEqDiff]
  have hX : ∀ b ∈ oSp b3 0 none 0 0 :: oFi b2 (.mk [] false 0 0 0 0 []) none 0 :: M, wb.heap.size ≤ b.1 := fun b hb => by
    simp only [List.mem_cons] at hb
    rcases hb with rfl | rfl | hb
    · exact hb3
    · exact hb2
    · exact hQ.hM b hb
  refine callV en_53 (callX_pr (fun w' hw' => hT wb w' rb s p1 _ ⟨hs, hQ.says, hQ.lib, hp1, hrb, hX, hw'⟩ (by omega)) (fun t q2 v p2 K hr2 hq2 hp2 hS hK => ?_) (fun q2 K hr2 hK => ?_))
  rotate_left
  · simp (disch := omega) only [push_cast, Nat.reduceEqDiff]
    refine fun w' hw' => PRet.fall (K ++ [oSp b3 0 none 0 0, oFi b2 (.mk [] false 0 0 0 0 []) none 0]) (by rw [pField, hr, PR.and_ok, ← hq, hr2, PR.and_no]) (fun b hb => ?_) (by simpa only [List.append_assoc, List.cons_append, List.nil_append] using hw')
    simp only [List.mem_append, List.mem_cons, List.mem_nil_iff, or_false] at hb
    rcases hb with hb | rfl | rfl
    · exact hK b hb
    · exact hb3
    · exact hb2
  (refine Exists.elim (hS) (fun a hz => Exists.elim hz (fun c hz => Exists.elim hz (fun a2 hz => Exists.elim hz (fun c2 hz => Exists.elim hz (fun K1 hz => Exists.elim hz (fun K2 hz => ?_)))))); have ez := hz.1; subst ez; have ez := hz.2.1; subst ez; have hO1 := hz.2.2.1; have hO2 := hz.2.2.2; clear hz)
  have g2 := pTyped_goes (pField_goes s d) _ _ _ (by rw [hq]; exact g1.2.1) hr2
  simp (disch := omega) only [push_cast, Nat.reduceEqDiff]
  refine newI (fun b6 hb6 hn6 => ?_)
  simp (disch := omega) only [push_cast, Nat.reduceEqDiff]
  refine storeX 0 rfl Siz.eq rfl rfl (by simp [Value.oneCell']) (by simp) ?_
  simp (disch := omega) only [push_cast, Nat.reduceEqDiff]
  have hle2 : blP s p2 ≤ s.length := runP_le hp2
  have hL : ∀ (o6 o3 o2 : Obj) (p9 : Nat), ∀ b ∈ (b6, o6) :: oRd rb s p9 :: ((K1 ++ K2) ++ ((b3, o3) :: (b2, o2) :: M)), wb.heap.size ≤ b.1 := fun o6 o3 o2 p9 b hb => by
    simp only [List.mem_cons, List.mem_append] at hb hK
    rcases hb with rfl | rfl | hb | rfl | rfl | hb
    · exact hb6
    · exact hrb
    · exact hK b hb
    · exact hb3
    · exact hb2
    · exact hQ.hM b hb
  have hst : ∀ (o3 o2 : Obj) (p9 : Nat), Stab wb (oTp b6 t.k t.wd t.id t.ix a t.l.length c :: oRd rb s p9 :: ((K1 ++ K2) ++ ((b3, o3) :: (b2, o2) :: M))) [oTp b6 t.k t.wd t.id t.ix a t.l.length c] := fun o3 o2 p9 => Stab.of (.cons_cons _ (List.nil_sublist _)) (hL _ _ _ _)
  refine freeTs [0, 1, 2, 5, 6, 7] [3, 4, 8, 9] [[3, 4, 8, 9]] [oTp b6 t.k t.wd t.id t.ix a t.l.length c] (by kernel_rfl) mixed (by kernel_rfl) (by kernel_rfl) (fun h => by cases h) (hst _ _ _) ?_
  simp (disch := omega) only [push_cast, Nat.reduceEqDiff]
  refine loadX_agg Shp.eq mem0 rfl rfl ?_
  simp (disch := omega) only [push_cast, Nat.reduceEqDiff]
  intro tt htt
  simp only [List.mem_cons, List.mem_nil_iff, or_false] at htt
  subst htt
  simp (disch := omega) only [push_cast, Nat.reduceEqDiff]
  have hst2 : ∀ (o3 o2 : Obj) (p9 : Nat), Stab wb (oRd rb s p9 :: oTp b6 t.k t.wd t.id t.ix a t.l.length c :: ((K1 ++ K2) ++ ((b3, o3) :: (b2, o2) :: M))) [oTp b6 t.k t.wd t.id t.ix a t.l.length c] := fun o3 o2 p9 => Stab.of (.cons _ (.cons_cons _ (List.nil_sublist _))) (fun b hb => by
    simp only [List.mem_cons, List.mem_append] at hb hK
    rcases hb with rfl | rfl | hb | rfl | rfl | hb
    · exact hrb
    · exact hb6
    · exact hK b hb
    · exact hb3
    · exact hb2
    · exact hQ.hM b hb)
  have hst3 : ∀ (o3 o2 : Obj) (p9 : Nat), Stab wb ((b2, o2) :: (b3, o3) :: oTp b6 t.k t.wd t.id t.ix a t.l.length c :: oRd rb s p9 :: ((K1 ++ K2) ++ M)) [oTp b6 t.k t.wd t.id t.ix a t.l.length c] := fun o3 o2 p9 => Stab.of (.cons _ (.cons _ (.cons_cons _ (List.nil_sublist _)))) (fun b hb => by
    simp only [List.mem_cons, List.mem_append] at hb hK
    rcases hb with rfl | rfl | rfl | rfl | hb | hb
    · exact hb2
    · exact hb3
    · exact hb6
    · exact hrb
    · exact hK b hb
    · exact hQ.hM b hb)
  refine callV en_23 (callX_two (fun L' => s[blP s p2]? = some 63 ∧ L' = oRd rb s (blP s p2 + 1) :: oTp b6 t.k t.wd t.id t.ix a t.l.length c :: ((K1 ++ K2) ++ (oSp b3 0 none 0 0 :: oFi b2 (.mk [] false 0 0 0 0 []) none 0 :: M))) (fun L' => s[blP s p2]? ≠ some 63 ∧ L' = oRd rb s (blP s p2) :: oTp b6 t.k t.wd t.id t.ix a t.l.length c :: ((K1 ++ K2) ++ (oSp b3 0 none 0 0 :: oFi b2 (.mk [] false 0 0 0 0 []) none 0 :: M))) (fun w' hw' => take_walk wb w' rb s p2 _ 63 63 rfl hs hp2 (hw'.perm (List.Perm.swap _ _ _))) (fun L' hL' => ?_) (fun L' hL' => ?_))
  · have h := hL'.1
    have e := hL'.2
    subst e
    try simp (disch := omega) only [push_cast, Nat.reduceEqDiff]
    refine ⟨hst2 _ _ _, ?_⟩
    try simp (disch := omega) only [push_cast, Nat.reduceEqDiff]
    refine ⟨hst2 _ _ _, storeX_weak (L' := oFi b2 (.mk [] false 0 0 0 0 []) none 0 :: oSp b3 0 none 0 0 :: oTp b6 t.k t.wd t.id t.ix a t.l.length c :: oRd rb s (blP s p2 + 1) :: ((K1 ++ K2) ++ M)) (fun w hw => hw.perm (?_ : List.Perm (oRd rb s (blP s p2 + 1) :: oTp b6 t.k t.wd t.id t.ix a t.l.length c :: ((K1 ++ K2) ++ (oSp b3 0 none 0 0 :: oFi b2 (.mk [] false 0 0 0 0 []) none 0 :: M))) _)) (storeX 0 rfl Siz.eq rfl rfl (by simp [Value.oneCell']) (by simp) ?_)⟩
    · exact permC fun f => by simp only [wt_append, wt_cons, wt_nil]; omega
    try simp (disch := omega) only [push_cast, Nat.reduceEqDiff]
    refine ⟨hst3 _ _ _, storeX 1 rfl Siz.eq rfl rfl (by simp [Value.oneCell']) (by simp) ?_⟩
    try simp (disch := omega) only [push_cast, Nat.reduceEqDiff]
    refine ⟨hst3 _ _ _, ?_⟩
    try simp (disch := omega) only [push_cast, Nat.reduceEqDiff]
    refine loadX_agg Shp.eq mem0 rfl rfl ?_
    try simp (disch := omega) only [push_cast, Nat.reduceEqDiff]
    refine loadX_agg Shp.eq mem1 rfl rfl ?_
    try simp (disch := omega) only [push_cast, Nat.reduceEqDiff]
    refine fun w' hw' => PRet.leaf (S := fun x _ v K => FieldV x v K) _ ((blP s p2 + 1)) (K1 ++ K2) (x := mkF nm true t (blP s p)) (q := blP s ((blP s p2 + 1))) ?_ rfl ?_ (mk_field (by omega) (by omega) hO1 hO2) hK ?_
    · have hq63 : pSign s 63 q2 = some (blP s (blP s p2 + 1)) := by
        unfold pSign
        rw [← hq2, if_pos h]
      rw [pField, hr, PR.and_ok, ← hq, hr2, PR.and_ok, hq63]
    · have := (List.getElem?_eq_some_iff.1 h).1
      omega
    · exact Sy.left (A := [_, _, _]) hw' (fun b hb => by
        simp only [List.mem_cons, List.mem_nil_iff, or_false] at hb
        rcases hb with rfl | rfl | rfl
        · exact hb2
        · exact hb3
        · exact hb6)
  · have h := hL'.1
    have e := hL'.2
    subst e
    try simp (disch := omega) only [push_cast, Nat.reduceEqDiff]
    refine ⟨hst2 _ _ _, ?_⟩
    try simp (disch := omega) only [push_cast, Nat.reduceEqDiff]
    refine ⟨hst2 _ _ _, storeX_weak (L' := oFi b2 (.mk [] false 0 0 0 0 []) none 0 :: oSp b3 0 none 0 0 :: oTp b6 t.k t.wd t.id t.ix a t.l.length c :: oRd rb s (blP s p2) :: ((K1 ++ K2) ++ M)) (fun w hw => hw.perm (?_ : List.Perm (oRd rb s (blP s p2) :: oTp b6 t.k t.wd t.id t.ix a t.l.length c :: ((K1 ++ K2) ++ (oSp b3 0 none 0 0 :: oFi b2 (.mk [] false 0 0 0 0 []) none 0 :: M))) _)) (storeX 0 rfl Siz.eq rfl rfl (by simp [Value.oneCell']) (by simp) ?_)⟩
    · exact permC fun f => by simp only [wt_append, wt_cons, wt_nil]; omega
    try simp (disch := omega) only [push_cast, Nat.reduceEqDiff]
    refine ⟨hst3 _ _ _, storeX 1 rfl Siz.eq rfl rfl (by simp [Value.oneCell']) (by simp) ?_⟩
    try simp (disch := omega) only [push_cast, Nat.reduceEqDiff]
    refine ⟨hst3 _ _ _, ?_⟩
    try simp (disch := omega) only [push_cast, Nat.reduceEqDiff]
    refine loadX_agg Shp.eq mem0 rfl rfl ?_
    try simp (disch := omega) only [push_cast, Nat.reduceEqDiff]
    refine loadX_agg Shp.eq mem1 rfl rfl ?_
    try simp (disch := omega) only [push_cast, Nat.reduceEqDiff]
    refine fun w' hw' => PRet.leaf (S := fun x _ v K => FieldV x v K) _ ((blP s p2)) (K1 ++ K2) (x := mkF nm false t (blP s p)) (q := blP s ((blP s p2))) ?_ rfl ?_ (mk_field (by omega) (by omega) hO1 hO2) hK ?_
    · have hq63 : pSign s 63 q2 = none := by
        unfold pSign
        rw [← hq2, if_neg h]
      rw [pField, hr, PR.and_ok, ← hq, hr2, PR.and_ok, hq63]
      have hb2 : blP s (blP s p2) = blP s p2 := by unfold blP; exact runP_idem _ _ _
      show PR.ok _ q2 = PR.ok _ (blP s (blP s p2))
      rw [hb2, hq2]
    · exact hle2
    · exact Sy.left (A := [_, _, _]) hw' (fun b hb => by
        simp only [List.mem_cons, List.mem_nil_iff, or_false] at hb
        rcases hb with rfl | rfl | rfl
        · exact hb2
        · exact hb3
        · exact hb6)
theorem fields_ok : ∀ d, FieldOK d
  | 0 => fun wb w rb s p M hQ hd => by omega
  | d + 1 => field_step d (typeR_step d (one_step d (fields_ok d)) (many_step d (fields_ok d)))
theorem many_ok (d : Nat) : ManyOK d := many_step d (fields_ok d)
end Go.Proofs.YtdmdgkpjjpijdaaDoor
