/- YtilejcofleeeiaaGreatDoor: walks, part 236: a parser: the children of structs. -/
import Derived.Test.YtilejcofleeeiaaGreatDoorW235
namespace Go.Proofs.YtilejcofleeeiaaGreatDoor
open Go Go.K
set_option maxRecDepth 100000
set_option linter.unusedVariables false
set_option linter.unusedSimpArgs false
set_option maxHeartbeats 4000000
structure KiI (w0 : World) (pb : Nat) (s : List UInt8) (M : Own) (b3 : Nat) (fs : List Fld) (a : Option Addr) (c : Nat) (R : Fld → Nat → PV Vl) (r : PV (List Vl)) (i : Nat) (wb : World) (e : Env) (ds : List Deferred) (L : Own) : Prop where
  hw : wb = w0
  hds : ds = []
  h0 : e 0 = pPs pb
  h3 : e 3 = .pointer (some ⟨b3, 0, none⟩)
  h12 : e 12 = .slice a fs.length c
  h13 : e 13 = i64 fs.length
  h14 : e 14 = i64 i
  o : ∃ (q : Nat) (l : List Vl) (x : Rw) (its : List Rw), q ≤ s.length ∧ l.length = i ∧ x.OK ∧ x.n = l.length ∧ ZeK l its (x.cs.take (x.n * 4)) ∧ (∀ p ∈ x.own, w0.heap.size ≤ p.1) ∧ (∀ p ∈ ownR its, w0.heap.size ≤ p.1) ∧ e 5 = x.way ∧ L = oPs pb s q :: ((x.own ++ ownR its) ++ M) ∧ r = (kidsV s R (decide (i = 0)) (fs.drop i) q).and fun l' q => .ok (l ++ l') q
  hi : i ≤ fs.length
structure KiJ (w0 : World) (pb : Nat) (s : List UInt8) (N : Own) (b3 b7 : Nat) (o7 : Nat × Obj) (fs : List Fld) (a : Option Addr) (c : Nat) (g : Fld) (R : Fld → Nat → PV Vl) (r : PV (List Vl)) (l : List Vl) (x : Rw) (its : List Rw) (wb : World) (e : Env) (ds : List Deferred) (L : Own) : Prop where
  hw : wb = w0
  hds : ds = []
  h0 : e 0 = pPs pb
  h3 : e 3 = .pointer (some ⟨b3, 0, none⟩)
  h5 : e 5 = .slice x.at_ l.length x.c
  h7 : e 7 = .pointer (some ⟨b7, 0, none⟩)
  h12 : e 12 = .slice a fs.length c
  h13 : e 13 = i64 fs.length
  h14 : e 14 = i64 l.length
  o : ∃ q : Nat, q ≤ s.length ∧ L = o7 :: oPs pb s q :: ((x.own ++ ownR its) ++ N) ∧ r = ((mustV s (g.nm ++ [58]) q).and fun _ q => (R g q).and fun v q => (kidsV s R false (fs.drop (l.length + 1)) q).and fun l' q => .ok (v :: l') q).and fun l' q => .ok (l ++ l') q
theorem children_step (d : Nat) (hP : PaOK d) (wb w : World) (lo pb : Nat) (s : List UInt8) (p : Nat) (M : Own) (ind : Bool) (f : Fld) (a : Option Addr) (c : Nat) (hl : LibV wb) (hTb : TabsAt wb) (hlo : lo ≤ wb.heap.size) (hok : okT (d + 1) ind f) (hk : f.k = 17) (hA : FlAt wb lo f a c) (hs : s.length ≤ 65536) (hp : p ≤ s.length) (hpb : wb.heap.size ≤ pb) (hM : ∀ b ∈ M, wb.heap.size ≤ b.1) (hw : Sy wb (oPs pb s p :: M) w) :
    Calls Tryz.prog 73 #[pPs pb, .agg (f.tcells a c).toArray] w (PVR wb pb s M ((mustV s [123] p).and fun _ r => kidsV s (readV s d) true f.sub r) LsS) := by
  have hmost : f.sub.length ≤ 32 := by
    have h1 := hok.1.1.2.2.2.2
    rw [hk] at h1
    simp [mostK] at h1
    omega
  obtain ⟨R, hR⟩ : ∃ R, readV s d = R := ⟨_, rfl⟩
  rw [hR]
  refine enterB (args := [pPs pb, .agg (f.tcells a c).toArray]) Tryz.func73 rfl Tryz.ntmps73 (congrArg Array.toList Tryz.results73) (by kernel_rfl) (by simp) hw ?_
  simp (disch := omega) only [push_cast, Nat.reduceEqDiff, Fld.tcells]
  refine newI (fun b3 hb3 hn3 => ?_)
  simp (disch := omega) only [push_cast, Nat.reduceEqDiff, Fld.tcells]
  obtain ⟨o3, ho3⟩ : ∃ o, o = (b3, Obj.cells #[i64 f.k, i64 f.wd, i64 f.id, i64 f.ix, .slice a f.sub.length c] 24 (0, 0)) := ⟨_, rfl⟩
  have hM3 : ∀ b ∈ o3 :: M, wb.heap.size ≤ b.1 := fun b hb => by
    rcases List.mem_cons.1 hb with rfl | hb
    · rw [ho3]; exact hb3
    · exact hM b hb
  refine callV en_101 (callX_weak (L' := oPs pb s p :: o3 :: M) (fun w hw => by rw [ho3]; exact hw.perm (List.Perm.swap _ _ _)) (callX_pv (M := o3 :: M) (fun w' hw' => must_walk wb w' pb s p (o3 :: M) 123 123 rfl hs hp hpb hw') (fun x q v K hr hq hS hK => ?_) (fun er q K hr hK => ?_)))
  rotate_left
  · simp (disch := omega) only [push_cast, Nat.reduceEqDiff]
    exact fun w' hw' => PVR.fall (K ++ [o3]) (by rw [hr, PV.and_no]) (fun b hb => by
      rcases List.mem_append.1 hb with hb | hb
      · exact hK b hb
      · rw [List.mem_singleton.1 hb]; exact hM3 _ (.head _)) (by simpa [List.append_assoc] using hw')
  obtain ⟨rfl, rfl⟩ := hS
  rw [hr, PV.and_ok]
  obtain ⟨r0, hr0⟩ : ∃ r0, kidsV s R true f.sub q = r0 := ⟨_, rfl⟩
  rw [hr0]
  simp (disch := omega) only [push_cast, Nat.reduceEqDiff]
  refine ldOne Shp.eq (by rw [ho3]; exact mem1) rfl ?_
  simp (disch := omega) only [push_cast, Nat.reduceEqDiff]
  rw [V_block]
  simp (disch := omega) only [push_cast, Nat.reduceEqDiff]
  refine loopW (G := Nat) (KiI wb pb s (o3 :: M) b3 f.sub a c R r0) (fun i => f.sub.length - i) 0 _ (fun w hw => hw) (by kernel_rfl) ⟨rfl, rfl, rfl, rfl, rfl, rfl, rfl, ⟨q, [], ⟨none, 0, 0, []⟩, [], hq, rfl, .inl ⟨rfl, rfl, rfl⟩, rfl, ZeK.nil, by simp [Rw.own], by simp [ownR], rfl, rfl, ?_⟩, by omega⟩ ?_
  · simp only [List.nil_append]
    rw [← hr0]
    show _ = (kidsV s R true f.sub q).and _
    cases kidsV s R true f.sub q <;> rfl
  clear hw hr hn3 hr0
  rintro i wb e ds L ⟨rfl, rfl, h0, h3, h12, h13, h14, ⟨q, l, x, its, hq, hli, hx, hxl, hZ, hxn, hin, h5, rfl, hr⟩, hi⟩
  subst hli
  replace h5 : e 5 = .slice x.at_ x.n x.c := h5
  rw [hxl] at h5
  have hZn : ∀ b ∈ x.own ++ ownR its, wb.heap.size ≤ b.1 := fun b hb => (List.mem_append.1 hb).elim (hxn b) (hin b)
  simp (disch := omega) only [push_cast, Nat.reduceEqDiff, h12, h13, h14]
  rw [V_cond]
  simp (disch := omega) only [push_cast, Nat.reduceEqDiff, h12, h13, h14]
  refine condX_d (fun hlt => ?_) (fun hge => ?_)
  rotate_left
  · have hle : f.sub.drop l.length = [] := List.drop_eq_nil_iff.2 (by omega)
    rw [hle, kidsV] at hr
    simp (disch := omega) only [push_cast, Nat.reduceEqDiff, h0, h5]
    refine callV en_101 (callX_pv (M := (x.own ++ ownR its) ++ o3 :: M) (fun w' hw' => must_walk wb w' pb s q ((x.own ++ ownR its) ++ o3 :: M) 125 125 rfl hs hq hpb hw') (fun u q1 v K hr1 hq1 hS hK => ?_) (fun er q1 K hr1 hK => ?_))
    · obtain ⟨rfl, rfl⟩ := hS
      simp (disch := omega) only [push_cast, Nat.reduceEqDiff, h5]
      refine fun w' hw' => PVR.leaf (x := l) (q := q1) _ (x.own ++ ownR its) (by rw [hr, hr1]; simp only [PV.and_ok, List.append_nil]) hq1 ⟨x, its, hx, hxl, hZ, by rw [← hxl]; rfl, rfl⟩ hZn ?_
      exact (by simpa [List.append_assoc] using hw' : Sy wb ((oPs pb s q1 :: (x.own ++ ownR its)) ++ ([o3] ++ M)) w').mid (oPs pb s q1 :: (x.own ++ ownR its)) [o3] (fun b hb => by rw [List.mem_singleton.1 hb]; exact hM3 _ (.head _))
    · simp (disch := omega) only [push_cast, Nat.reduceEqDiff]
      exact fun w' hw' => PVR.fall (K ++ ((x.own ++ ownR its) ++ [o3])) (by rw [hr, hr1]; rfl) (fun b hb => by
        rcases List.mem_append.1 hb with hb | hb
        · exact hK b hb
        · rcases List.mem_append.1 hb with hb | hb
          · exact hZn b hb
          · rw [List.mem_singleton.1 hb]; exact hM3 _ (.head _)) (by simpa [List.append_assoc] using hw')
  obtain ⟨g, hg⟩ : ∃ g, f.sub[l.length]? = some g := ⟨_, List.getElem?_eq_getElem (by omega)⟩
  have hgm := List.mem_of_getElem? hg
  have hnm := ((hok.2 g hgm).name).2.2
  obtain ⟨gb, goff, ga, gc, rfl, g1, g2, g3⟩ := hA.get hg
  have hdr : f.sub.drop l.length = g :: f.sub.drop (l.length + 1) := by
    obtain ⟨h1, h2⟩ := List.getElem?_eq_some_iff.1 hg
    rw [← h2]
    exact List.drop_eq_getElem_cons h1
  rw [hdr, kidsV] at hr
  simp (disch := omega) only [push_cast, Nat.reduceEqDiff, h12, h14]
  rw [V_block]
  simp (disch := omega) only [push_cast, Nat.reduceEqDiff, h12, h14]
  refine ldAggF Shp.eq g2 rfl (out_of (fun b hb => Nat.lt_of_lt_of_le (Nat.lt_of_lt_of_le g1 hlo) (by
    rcases List.mem_cons.1 hb with rfl | hb
    · exact hpb
    · exact (List.mem_append.1 hb).elim (hZn b) (hM3 b)))) ?_
  simp (disch := omega) only [push_cast, Nat.reduceEqDiff, Fld.cells]
  refine newI (fun b7 hb7 hn7 => ?_)
  simp (disch := omega) only [push_cast, Nat.reduceEqDiff, Fld.cells]
  refine storeX 0 rfl Siz.eq rfl rfl (by simp [Value.oneCell']) (by simp) ?_
  simp (disch := omega) only [push_cast, Nat.reduceEqDiff, h12, h14]
  obtain ⟨o7, ho7⟩ : ∃ o, o = (b7, Obj.cells #[str g.nm, .bool g.nl, i64 g.k, i64 g.wd, i64 g.id, i64 g.ix, .slice ga g.sub.length gc] 26 (0, 0)) := ⟨_, rfl⟩
  have h7n : wb.heap.size ≤ o7.1 := by rw [ho7]; exact hb7
  have hKn : ∀ {K : Own}, (∀ b ∈ K, wb.heap.size ≤ b.1) → ∀ b ∈ K ++ (o7 :: ((x.own ++ ownR its) ++ [o3])), wb.heap.size ≤ b.1 := fun hK b hb => by
    rcases List.mem_append.1 hb with hb | hb
    · exact hK b hb
    · rcases List.mem_cons.1 hb with rfl | hb
      · exact h7n
      · rcases List.mem_append.1 hb with hb | hb
        · exact hZn b hb
        · rw [List.mem_singleton.1 hb]; exact hM3 _ (.head _)
  have hmv : ∀ {K : Own} {w' : World}, Sy wb (K ++ (o7 :: ((x.own ++ ownR its) ++ o3 :: M))) w' → Sy wb ((K ++ (o7 :: ((x.own ++ ownR its) ++ [o3]))) ++ M) w' := fun h => by simpa [List.append_assoc] using h
  refine cutV (KiJ wb pb s (o3 :: M) b3 b7 o7 f.sub (some ⟨gb, goff, none⟩) c g R r0 l x its) ?_ ?_
  · rw [V_cond]
    simp (disch := omega) only [push_cast, Nat.reduceEqDiff, h0]
    refine condX_d (fun hp0 => ?_) (fun hp0 => ?_)
    · simp (disch := omega) only [push_cast, Nat.reduceEqDiff, h0]
      refine callV en_101 (callX_weak (L' := oPs pb s q :: (o7 :: ((x.own ++ ownR its) ++ o3 :: M))) (fun w hw => by rw [ho7]; exact hw.perm (List.Perm.swap _ _ _)) (callX_pw (M := o7 :: ((x.own ++ ownR its) ++ o3 :: M)) (fun q' K => o7 :: oPs pb s q' :: (K ++ ((x.own ++ ownR its) ++ o3 :: M))) (fun w' hw' => must_walk wb w' pb s q (o7 :: ((x.own ++ ownR its) ++ o3 :: M)) 44 44 rfl hs hq hpb hw') (fun q' K w hw => hw.perm (permC fun f => by simp only [wt_append, wt_cons, wt_nil]; omega)) (fun u q1 v K hr1 hq1 hS hK => ?_) (fun er q1 K hr1 hK => ?_)))
      · obtain ⟨rfl, rfl⟩ := hS
        simp (disch := omega) only [push_cast, Nat.reduceEqDiff, h0]
        exact ⟨rfl, rfl, h0, h3, h5, rfl, h12, h13, h14, ⟨q1, hq1, rfl, by rw [hr, if_neg (fun h => by have := of_decide_eq_true h; omega), hr1]; rfl⟩⟩
      · simp (disch := omega) only [push_cast, Nat.reduceEqDiff]
        exact fun w' hw' => PVR.fall (K ++ (o7 :: ((x.own ++ ownR its) ++ [o3]))) (by rw [hr, if_neg (fun h => by have := of_decide_eq_true h; omega), hr1]; rfl) (hKn hK) (hmv hw')
    · simp (disch := omega) only [push_cast, Nat.reduceEqDiff, h0]
      exact ⟨rfl, rfl, h0, h3, h5, rfl, h12, h13, h14, ⟨q, hq, by rw [ho7], by rw [hr, if_pos (decide_eq_true (by omega))]; rfl⟩⟩
  clear h0 h3 h5 h12 h13 h14 hr hq e hn7
  rintro wb e ds L ⟨rfl, rfl, h0, h3, h5, h7, h12, h13, h14, ⟨q, hq, rfl, hr⟩⟩
  subst ho7
  simp (disch := omega) only [push_cast, Nat.reduceEqDiff, h0, h5, h7]
  refine ldOne Shp.eq mem0 rfl ?_
  simp (disch := omega) only [push_cast, Nat.reduceEqDiff, h0, h5, h7]
  refine addS (m := [58]) (by simp only [List.length_cons, List.length_nil]; omega) ?_
  simp (disch := omega) only [push_cast, Nat.reduceEqDiff, h0, h5, h7]
  refine drawQT (by kernel_rfl) (by kernel_rfl) mixed (by kernel_rfl) ?_
  simp (disch := omega) only [push_cast, Nat.reduceEqDiff, h0, h5, h7]
  refine ldOne Shp.eq mem1 rfl ?_
  simp (disch := omega) only [push_cast, Nat.reduceEqDiff, h0, h5, h7]
  refine ldOne Shp.eq mem1 rfl ?_
  simp (disch := omega) only [push_cast, Nat.reduceEqDiff, h0, h5, h7]
  refine qcallV en_105 (qcallX_is _ (fun w' _ => hasPrefix_walk w' (s.drop q) (g.nm ++ [58])) ?_)
  simp (disch := omega) only [push_cast, Nat.reduceEqDiff, h0, h5, h7]
  rw [V_cond]
  simp (disch := omega) only [push_cast, Nat.reduceEqDiff, h0, h5, h7]
  rw [hasPre]
  refine condX_b (fun hno => ?_) (fun hyes => ?_)
  · simp (disch := omega) only [push_cast, Nat.reduceEqDiff, h0, h5, h7]
    refine ldOne Shp.eq mem1 rfl ?_
    simp (disch := omega) only [push_cast, Nat.reduceEqDiff, h0, h5, h7]
    refine callV en_33 (callX_fail q ?_)
    simp (disch := omega) only [push_cast, Nat.reduceEqDiff]
    refine fun w' hw' => PVR.fall ([oPs pb s q] ++ (_ :: ((x.own ++ ownR its) ++ [o3]))) ?_ (hKn (K := [oPs pb s q]) (fun b hb => by rw [List.mem_singleton.1 hb]; exact hpb)) (hmv (K := [oPs pb s q]) (hw'.perm (List.Perm.swap _ _ _)))
    have : mustV s (g.nm ++ [58]) q = .no 8 q := by unfold mustV; rw [if_neg (by intro h; rw [h] at hno; cases hno)]
    rw [hr, this]
    rfl
  have hpre : (g.nm ++ [58]).isPrefixOf (s.drop q) = true := by simpa using hyes
  have hq2 : q + (g.nm.length + 1) ≤ s.length := by
    have := (List.isPrefixOf_iff_prefix.1 hpre).length_le
    simp only [List.length_append, List.length_cons, List.length_nil, List.length_drop] at this
    omega
  have hmu : mustV s (g.nm ++ [58]) q = .ok () (q + (g.nm.length + 1)) := by unfold mustV; rw [if_pos hpre, List.length_append]; rfl
  rw [hmu, PV.and_ok] at hr
  have hl9 : (g.nm ++ [58]).length = g.nm.length + 1 := by rw [List.length_append]; rfl
  simp (disch := omega) only [push_cast, Nat.reduceEqDiff, h0, h5, h7, hl9]
  refine ldOne Shp.eq mem1 rfl ?_
  simp (disch := omega) only [push_cast, Nat.reduceEqDiff, h0, h5, h7, hl9]
  refine storeX 1 rfl Siz.eq rfl rfl (by simp [Value.oneCell']) (by simp) ?_
  simp (disch := omega) only [push_cast, Nat.reduceEqDiff, h0, h5, h7]
  refine loadX_agg Shp.eq mem0 rfl rfl ?_
  simp (disch := omega) only [push_cast, Nat.reduceEqDiff, h0, h5, h7]
  obtain ⟨o7, ho7⟩ : ∃ o, o = (b7, Obj.cells #[str g.nm, .bool g.nl, i64 g.k, i64 g.wd, i64 g.id, i64 g.ix, .slice ga g.sub.length gc] 26 (0, 0)) := ⟨_, rfl⟩
  refine callV en_32 (callX_weak (L' := oPs pb s (q + (g.nm.length + 1)) :: (o7 :: ((x.own ++ ownR its) ++ o3 :: M))) (fun w hw => ?_) (callX_pv (M := o7 :: ((x.own ++ ownR its) ++ o3 :: M)) (fun w' hw' => hP wb w' lo pb s (q + (g.nm.length + 1)) (o7 :: ((x.own ++ ownR its) ++ o3 :: M)) _ g ga gc hl hTb hlo (hok.2 g hgm) g3 hs hq2 hpb (fun b hb => ?_) hw') (fun v q2 u K hr2 hq2 hS hK => ?_) (fun er q2 K hr2 hK => ?_)))
  · have h2 := hw.perm (List.Perm.swap _ _ _)
    rw [ho7, oPs, Int.natCast_add, Int.natCast_add]
    exact h2
  · rcases List.mem_cons.1 hb with rfl | hb
    · rw [ho7]; exact hb7
    · exact (List.mem_append.1 hb).elim (hZn b) (hM3 b)
  rotate_left
  · simp (disch := omega) only [push_cast, Nat.reduceEqDiff]
    exact fun w' hw' => PVR.fall (K ++ (o7 :: ((x.own ++ ownR its) ++ [o3]))) (by rw [hr, ← hR, hr2]; rfl) (by rw [ho7]; exact hKn hK) (by rw [ho7] at hw' ⊢; exact hmv hw')
  obtain ⟨its2, a2, c2, hv, rfl, rfl⟩ := hS
  simp (disch := omega) only [push_cast, Nat.reduceEqDiff, h0, h5, Vl.cells]
  refine bs_27_1 (newI fun b8 hb8 hn8 => ?_)
  simp (disch := omega) only [push_cast, Nat.reduceEqDiff, h0, h5]
  refine valX_weak (L' := (b8, Obj.cells (v.cells a2 c2).toArray 29 (0, 0)) :: oPs pb s q2 :: (ownR its2 ++ ((x.own ++ ownR its) ++ (o7 :: o3 :: M)))) (fun w hw => (show Sy wb ((b8, Obj.cells (v.cells a2 c2).toArray 29 (0, 0)) :: oPs pb s q2 :: (ownR its2 ++ (o7 :: ((x.own ++ ownR its) ++ o3 :: M)))) w from hw).perm (permC fun f => by simp only [wt_append, wt_cons, wt_nil]; omega)) (zapp (x := x) (its := its) (its2 := its2) (v := v) (a2 := a2) (c2 := c2) (o := oPs pb s q2) (N := o7 :: o3 :: M) (pb := 0) hb8 hx hxn (by omega) hxl (fun x' L' z1 z2 z3 z4 z5 => ?_))
  have hi2 : ∀ b ∈ ownR (its ++ its2), wb.heap.size ≤ b.1 := fun b hb => by
    rw [ownR_append] at hb
    exact (List.mem_append.1 hb).elim (hin b) (hK b)
  simp (disch := omega) only [push_cast, Nat.reduceEqDiff, h0, h3, h12, h13, h14]
  refine ⟨l.length + 1, oPs pb s q2 :: ((x'.own ++ ownR (its ++ its2)) ++ o3 :: M), fun w hw => ?_, ⟨rfl, rfl, h0, h3, h12, h13, i64_eq (by omega), ⟨q2, l ++ [v], x', its ++ its2, hq2, by simp, z1, by rw [z2]; simp, by rw [z3]; exact ZeK.append (ZeK.single hv) hZ, z4, hi2, ?_, rfl, ?_⟩, by omega⟩, by omega⟩
  · exact (z5 w hw).mid (oPs pb s q2 :: (x'.own ++ ownR (its ++ its2))) [o7] (C := o3 :: M) (fun b hb => by rw [List.mem_singleton.1 hb, ho7]; exact hb7)
  · rw [Rw.way, z2]; rfl
  · rw [hr, ← hR, hr2, PV.and_ok, PV.and_and, hR]
    simp only [PV.and_ok, List.append_assoc, List.singleton_append]
    rw [decide_eq_false (by omega)]
end Go.Proofs.YtilejcofleeeiaaGreatDoor
