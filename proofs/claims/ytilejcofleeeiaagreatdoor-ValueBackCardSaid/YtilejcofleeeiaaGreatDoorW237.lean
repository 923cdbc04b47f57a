/- YtilejcofleeeiaaGreatDoor: walks, part 237: a parser: choices. -/
import Derived.Test.YtilejcofleeeiaaGreatDoorW236
namespace Go.Proofs.YtilejcofleeeiaaGreatDoor
open Go Go.K
set_option maxRecDepth 100000
set_option linter.unusedVariables false
set_option linter.unusedSimpArgs false
set_option maxHeartbeats 4000000
structure ChI (w0 : World) (o3 o4 : Nat × Obj) (pb : Nat) (s : List UInt8) (p : Nat) (M : Own) (fs : List Fld) (a : Option Addr) (c : Nat) (nm : List UInt8) (i : Nat) (wb : World) (e : Env) (ds : List Deferred) (L : Own) : Prop where
  hw : wb = w0
  hds : ds = []
  h0 : e 0 = pPs pb
  h4 : e 4 = .pointer (some ⟨o4.1, 0, none⟩)
  h5 : e 5 = str nm
  h12 : e 12 = .slice a fs.length c
  h13 : e 13 = i64 fs.length
  h14 : e 14 = i64 i
  o : L = o4 :: o3 :: oPs pb s p :: M
  hi : i ≤ fs.length
  no : ∀ (j : Nat) (g : Fld), j < i → fs[j]? = some g → g.nm ≠ nm
theorem find_at {fs : List Fld} {nm : List UInt8} {i : Nat} {g : Fld} (hg : fs[i]? = some g) (h : g.nm = nm) (no : ∀ (j : Nat) (g : Fld), j < i → fs[j]? = some g → g.nm ≠ nm) : fs.findIdx? (fun g => g.nm == nm) = some i ∧ fs.find? (fun g => g.nm == nm) = some g := by
  obtain ⟨hi, he⟩ := List.getElem?_eq_some_iff.1 hg
  have h1 : fs.findIdx? (fun g => g.nm == nm) = some i := by
    rw [List.findIdx?_eq_some_iff_getElem]
    refine ⟨hi, by rw [he]; simpa using h, fun j hj => ?_⟩
    have := no j _ hj (List.getElem?_eq_getElem (by omega))
    simpa using this
  refine ⟨h1, ?_⟩
  rw [List.find?_eq_some_iff_getElem]
  refine ⟨by simpa using h, i, hi, he, fun j hj => ?_⟩
  have := no j _ hj (List.getElem?_eq_getElem (by omega))
  simpa using this
theorem choice_no {s : List UInt8} {R : Fld → Nat → PV Vl} {fs : List Fld} {q : Nat} (h : ∀ (j : Nat) (g : Fld), fs[j]? = some g → g.nm ≠ rowP nameB s q) : choiceV s R fs q = .no 8 q := by
  unfold choiceV
  have : fs.findIdx? (fun g => g.nm == rowP nameB s q) = none := by
    rw [List.findIdx?_eq_none_iff]
    intro g hg
    obtain ⟨j, hj⟩ := List.mem_iff_getElem?.1 hg
    simpa using h j g hj
  rw [this]
theorem choice_yes {s : List UInt8} {R : Fld → Nat → PV Vl} {fs : List Fld} {q i : Nat} {g : Fld} (hg : fs[i]? = some g) (h : g.nm = rowP nameB s q) (no : ∀ (j : Nat) (g : Fld), j < i → fs[j]? = some g → g.nm ≠ rowP nameB s q) :
    choiceV s R fs q = (mustV s [40] (runP nameB s q)).and fun _ r => (R g r).and fun v r => (mustV s [41] r).and fun _ r => .ok (.mk false i [] [v]) r := by
  obtain ⟨h1, h2⟩ := find_at hg h no
  unfold choiceV
  rw [h1, h2]
theorem choice_step (d : Nat) (hP : PaOK d) (wb w : World) (lo pb : Nat) (s : List UInt8) (p : Nat) (M : Own) (ind : Bool) (f : Fld) (a : Option Addr) (c : Nat) (hl : LibV wb) (hTb : TabsAt wb) (hlo : lo ≤ wb.heap.size) (hok : okT (d + 1) ind f) (hk : f.k = 18) (hA : FlAt wb lo f a c) (hs : s.length ≤ 65536) (hp : p ≤ s.length) (hpb : wb.heap.size ≤ pb) (hM : ∀ b ∈ M, wb.heap.size ≤ b.1) (hw : Sy wb (oPs pb s p :: M) w) :
    Calls Tryz.prog 74 #[pPs pb, .agg (f.tcells a c).toArray] w (PVR wb pb s M (choiceV s (readV s d) f.sub p) VlS) := by
  have hmost : f.sub.length ≤ 32 := by
    have h1 := hok.1.1.2.2.2.2
    rw [hk] at h1
    simp [mostK] at h1
    omega
  refine enterB (args := [pPs pb, .agg (f.tcells a c).toArray]) Tryz.func74 rfl Tryz.ntmps74 (congrArg Array.toList Tryz.results74) (by kernel_rfl) (by simp) hw ?_
  simp (disch := omega) only [push_cast, Nat.reduceEqDiff, Fld.tcells]
  refine newI (fun b3 hb3 hn3 => ?_)
  simp (disch := omega) only [push_cast, Nat.reduceEqDiff, Fld.tcells]
  refine newI (fun b4 hb4 hn4 => ?_)
  simp (disch := omega) only [push_cast, Nat.reduceEqDiff, Fld.tcells]
  refine callV en_66 (callX_is (fun w' hw' => row_walk w' pb s p 100 nameB en_100 letter_walk2 hs hp (At.of_own hw' mem2 rfl)) ?_)
  simp (disch := omega) only [push_cast, Nat.reduceEqDiff, Fld.tcells]
  refine ldOne Shp.eq mem1 rfl ?_
  simp (disch := omega) only [push_cast, Nat.reduceEqDiff, Fld.tcells]
  obtain ⟨o3, ho3⟩ : ∃ o, o = (b3, Obj.cells #[i64 f.k, i64 f.wd, i64 f.id, i64 f.ix, .slice a f.sub.length c] 24 (0, 0)) := ⟨_, rfl⟩
  obtain ⟨o4, ho4⟩ : ∃ o, o = (b4, Obj.cells #[.bool false, i64 0, str [], .slice none 0 0] 29 (0, 0)) := ⟨_, rfl⟩
  have n3 : wb.heap.size ≤ o3.1 := by rw [ho3]; exact hb3
  have n4 : wb.heap.size ≤ o4.1 := by rw [ho4]; exact hb4
  rw [V_block]
  simp (disch := omega) only [push_cast, Nat.reduceEqDiff]
  refine loopW (G := Nat) (ChI wb o3 o4 pb s p M f.sub a c (rowP nameB s p)) (fun i => f.sub.length - i) 0 _ (fun w hw => hw) (by kernel_rfl) ⟨rfl, rfl, rfl, by rw [ho4]; rfl, rfl, rfl, rfl, rfl, by rw [ho4, ho3], by omega, fun j g h => by omega⟩ ?_
  clear hw hn3 hn4
  rintro i wb e ds L ⟨rfl, rfl, h0, h4, h5, h12, h13, h14, rfl, hi, hno⟩
  simp (disch := omega) only [push_cast, Nat.reduceEqDiff, h12, h13, h14]
  rw [V_cond]
  simp (disch := omega) only [push_cast, Nat.reduceEqDiff, h12, h13, h14]
  refine condX_d (fun hlt => ?_) (fun hge => ?_)
  rotate_left
  · simp (disch := omega) only [push_cast, Nat.reduceEqDiff, h0]
    refine ldOne Shp.eq mem2 rfl ?_
    simp (disch := omega) only [push_cast, Nat.reduceEqDiff, h0]
    refine callV en_33 (callX_fail p ?_)
    simp (disch := omega) only [push_cast, Nat.reduceEqDiff]
    refine fun w' hw' => PVR.fall [o4, o3, oPs pb s p] (choice_no fun j g hj => ?_) (fun b hb => ?_) hw'
    · exact hno j g (by have := (List.getElem?_eq_some_iff.1 hj).1; omega) hj
    · simp only [List.mem_cons, List.mem_nil_iff, or_false] at hb
      rcases hb with rfl | rfl | rfl
      · exact n4
      · exact n3
      · exact hpb
  obtain ⟨g, hg⟩ : ∃ g, f.sub[i]? = some g := ⟨_, List.getElem?_eq_getElem (by omega)⟩
  have hgm := List.mem_of_getElem? hg
  have hnm := ((hok.2 g hgm).name).2.2
  obtain ⟨gb, goff, ga, gc, rfl, g1, g2, g3⟩ := hA.get hg
  simp (disch := omega) only [push_cast, Nat.reduceEqDiff, h12, h14]
  rw [V_block]
  simp (disch := omega) only [push_cast, Nat.reduceEqDiff, h12, h14]
  refine ldAggF Shp.eq g2 rfl (out_of (fun b hb => Nat.lt_of_lt_of_le (Nat.lt_of_lt_of_le g1 hlo) (by
    simp only [List.mem_cons] at hb
    rcases hb with rfl | rfl | rfl | hb
    · exact n4
    · exact n3
    · exact hpb
    · exact hM b hb))) ?_
  simp (disch := omega) only [push_cast, Nat.reduceEqDiff, Fld.cells]
  refine newI (fun b7 hb7 hn7 => ?_)
  simp (disch := omega) only [push_cast, Nat.reduceEqDiff, Fld.cells]
  refine storeX 0 rfl Siz.eq rfl rfl (by simp [Value.oneCell']) (by simp) ?_
  simp (disch := omega) only [push_cast, Nat.reduceEqDiff, h5]
  refine ldOne Shp.eq mem0 rfl ?_
  simp (disch := omega) only [push_cast, Nat.reduceEqDiff, h5]
  rw [V_cond]
  simp (disch := omega) only [push_cast, Nat.reduceEqDiff, h5]
  refine condX_d (fun heq => ?_) (fun hne => ?_)
  rotate_left
  · simp (disch := omega) only [push_cast, Nat.reduceEqDiff, h14]
    refine ⟨i + 1, o4 :: o3 :: oPs pb s p :: M, fun w hw => hw.left (A := [_]) (fun b hb => by rw [List.mem_singleton.1 hb]; exact hb7), ⟨rfl, rfl, h0, h4, h5, h12, h13, i64_eq (by omega), rfl, by omega, fun j g' hj hg' => ?_⟩, by omega⟩
    rcases Nat.lt_or_ge j i with h | h
    · exact hno j g' h hg'
    · obtain rfl : j = i := by omega
      rw [hg] at hg'
      obtain rfl := Option.some.inj hg'
      exact hne
  have hch := choice_yes (R := readV s d) hg heq hno
  have hrl : p + g.nm.length = runP nameB s p := by rw [heq]; rfl
  have hru : runP nameB s p ≤ s.length := runP_le hp
  rw [← hrl] at hch hru
  simp (disch := omega) only [push_cast, Nat.reduceEqDiff, h0, h5]
  refine ldOne Shp.eq mem3 rfl ?_
  simp (disch := omega) only [push_cast, Nat.reduceEqDiff, h0, h5, ← heq]
  refine storeX 3 rfl Siz.eq rfl rfl (by simp [Value.oneCell']) (by simp) ?_
  simp (disch := omega) only [push_cast, Nat.reduceEqDiff, h0, h5]
  obtain ⟨o7, ho7⟩ : ∃ o, o = (b7, Obj.cells #[str g.nm, .bool g.nl, i64 g.k, i64 g.wd, i64 g.id, i64 g.ix, .slice ga g.sub.length gc] 26 (0, 0)) := ⟨_, rfl⟩
  have n7 : wb.heap.size ≤ o7.1 := by rw [ho7]; exact hb7
  have hM7 : ∀ b ∈ o7 :: o4 :: o3 :: M, wb.heap.size ≤ b.1 := fun b hb => by
    simp only [List.mem_cons] at hb
    rcases hb with rfl | rfl | rfl | hb
    · exact n7
    · exact n4
    · exact n3
    · exact hM b hb
  have hKn : ∀ {K : Own}, (∀ b ∈ K, wb.heap.size ≤ b.1) → ∀ b ∈ K ++ [o7, o4, o3], wb.heap.size ≤ b.1 := fun hK b hb => by
    rcases List.mem_append.1 hb with hb | hb
    · exact hK b hb
    · exact hM7 b (by simp only [List.mem_cons, List.mem_nil_iff, or_false] at hb; rcases hb with rfl | rfl | rfl <;> simp)
  refine callV en_101 (callX_weak (L' := oPs pb s (p + g.nm.length) :: (o7 :: o4 :: o3 :: M)) (fun w hw => ?_) (callX_pv (M := o7 :: o4 :: o3 :: M) (fun w' hw' => must_walk wb w' pb s (p + g.nm.length) (o7 :: o4 :: o3 :: M) 40 40 rfl hs hru hpb hw') (fun u q1 v K hr1 hq1 hS hK => ?_) (fun er q1 K hr1 hK => ?_)))
  · rw [ho7, oPs, Int.natCast_add]
    exact hw.perm (List.perm_middle (l₁ := [_, _, _]))
  rotate_left
  · simp (disch := omega) only [push_cast, Nat.reduceEqDiff]
    exact fun w' hw' => PVR.fall (K ++ [o7, o4, o3]) (by rw [hch, hr1]; rfl) (hKn hK) (by simpa [List.append_assoc] using hw')
  obtain ⟨rfl, rfl⟩ := hS
  rw [hr1, PV.and_ok] at hch
  simp (disch := omega) only [push_cast, Nat.reduceEqDiff, h0, h14]
  refine loadX_agg Shp.eq (by rw [ho7]; exact mem1) rfl rfl ?_
  simp (disch := omega) only [push_cast, Nat.reduceEqDiff, h0, h14]
  refine callV en_32 (callX_pw (M := o7 :: o4 :: o3 :: M) (fun q K => o4 :: oPs pb s q :: (K ++ (o7 :: o3 :: M))) (fun w' hw' => hP wb w' lo pb s q1 (o7 :: o4 :: o3 :: M) _ g ga gc hl hTb hlo (hok.2 g hgm) g3 hs hq1 hpb hM7 hw') (fun q K w hw => hw.perm (permC fun f => by simp only [wt_append, wt_cons, wt_nil]; omega)) (fun v q2 u K hr2 hq2 hS hK => ?_) (fun er q2 K hr2 hK => ?_))
  rotate_left
  · simp (disch := omega) only [push_cast, Nat.reduceEqDiff]
    exact fun w' hw' => PVR.fall (K ++ [o7, o4, o3]) (by rw [hch, hr2]; rfl) (hKn hK) (by simpa [List.append_assoc] using hw')
  obtain ⟨its2, a2, c2, hv, rfl, rfl⟩ := hS
  rw [hr2, PV.and_ok] at hch
  simp (disch := omega) only [push_cast, Nat.reduceEqDiff, h0, h14, Vl.cells]
  refine bs_27_1 (newI fun b9 hb9 hn9 => ?_)
  simp (disch := omega) only [push_cast, Nat.reduceEqDiff, h0, h14]
  refine newI (fun b8 hb8 hn8 => ?_)
  simp (disch := omega) only [push_cast, Nat.reduceEqDiff, h0, h14]
  refine storeX 0 rfl Siz.eq rfl rfl (by simp [Value.oneCell']) (by simp) ?_
  simp (disch := omega) only [push_cast, Nat.reduceEqDiff, h0, h4]
  obtain ⟨o9, ho9⟩ : ∃ o, o = (b9, Obj.cells (v.cells a2 c2).toArray 29 (0, 0)) := ⟨_, rfl⟩
  obtain ⟨o8, ho8⟩ : ∃ o, o = (b8, Obj.cells #[.bool false, i64 i, str [], .slice (some ⟨b9, 0, none⟩) 1 1] 29 (0, 0)) := ⟨_, rfl⟩
  have n9 : wb.heap.size ≤ o9.1 := by rw [ho9]; exact hb9
  have n8 : wb.heap.size ≤ o8.1 := by rw [ho8]; exact hb8
  have hKm : ∀ {K : Own}, (∀ b ∈ K, wb.heap.size ≤ b.1) → ∀ b ∈ K ++ (o8 :: o9 :: o4 :: (ownR its2 ++ [o7, o3])), wb.heap.size ≤ b.1 := fun hK' b hb => by
    simp only [List.mem_append, List.mem_cons, List.mem_nil_iff, or_false] at hb
    rcases hb with hb | rfl | rfl | rfl | hb | rfl | rfl
    · exact hK' b hb
    · exact n8
    · exact n9
    · exact n4
    · exact hK b hb
    · exact n7
    · exact n3
  refine callV en_101 (callX_weak (L' := oPs pb s q2 :: (o8 :: o9 :: o4 :: (ownR its2 ++ (o7 :: o3 :: M)))) (fun w hw => ?_) (callX_pw (M := o8 :: o9 :: o4 :: (ownR its2 ++ (o7 :: o3 :: M))) (fun q K => o8 :: o4 :: oPs pb s q :: (K ++ (o9 :: (ownR its2 ++ (o7 :: o3 :: M))))) (fun w' hw' => must_walk wb w' pb s q2 (o8 :: o9 :: o4 :: (ownR its2 ++ (o7 :: o3 :: M))) 41 41 rfl hs hq2 hpb hw') (fun q K w hw => hw.perm (permC fun f => by simp only [wt_append, wt_cons, wt_nil]; omega)) (fun u q3 v' K hr3 hq3 hS hK' => ?_) (fun er q3 K hr3 hK' => ?_)))
  · rw [ho8, ho9]
    exact hw.perm (List.perm_middle (l₁ := [_, _, _]))
  rotate_left
  · simp (disch := omega) only [push_cast, Nat.reduceEqDiff]
    exact fun w' hw' => PVR.fall (K ++ (o8 :: o9 :: o4 :: (ownR its2 ++ [o7, o3]))) (by rw [hch, hr3]; rfl) (hKm hK') (by simpa [List.append_assoc] using hw')
  obtain ⟨rfl, rfl⟩ := hS
  rw [hr3, PV.and_ok] at hch
  rw [ho4] at h4
  simp (disch := omega) only [push_cast, Nat.reduceEqDiff, h4]
  refine loadX_agg Shp.eq (by rw [ho8]; exact mem0) rfl rfl ?_
  simp (disch := omega) only [push_cast, Nat.reduceEqDiff, h4]
  refine storeX 1 (by rw [ho4]; rfl) Siz.eq rfl rfl (by simp [Value.oneCell']) (by simp) ?_
  simp (disch := omega) only [push_cast, Nat.reduceEqDiff, h4]
  refine loadX_agg Shp.eq mem1 rfl rfl ?_
  simp (disch := omega) only [push_cast, Nat.reduceEqDiff]
  refine fun w' hw' => PVR.leaf (x := .mk false i [] [v]) (q := q3) _ (o9 :: ownR its2) hch hq3 ⟨⟨some b9, 1, 1, v.cells a2 c2⟩ :: its2, some ⟨b9, 0, none⟩, 1, ?_, rfl, ?_⟩ (fun b hb => ?_) ?_
  · rw [ZeV]
    refine ⟨by simp, by omega, _, its2, rfl, .inr ⟨by simp, Nat.le_refl _, (by show (1 : Nat) ≤ maxLen; decide), rfl⟩, rfl, rfl, rfl, ?_⟩
    exact ZeK.single hv
  · rw [ho9, ownR_cons]; rfl
  · rcases List.mem_cons.1 hb with rfl | hb
    · exact n9
    · exact hK b hb
  · have h2 := (hw'.left (A := [_, _]) (fun b hb => by
      simp only [List.mem_cons, List.mem_nil_iff, or_false] at hb
      rcases hb with rfl | rfl
      · exact n8
      · exact hb4) : Sy wb (oPs pb s q3 :: (o9 :: (ownR its2 ++ (o7 :: o3 :: M)))) w')
    exact h2.mid (oPs pb s q3 :: (o9 :: ownR its2)) [o7, o3] (C := M) (fun b hb => by
      simp only [List.mem_cons, List.mem_nil_iff, or_false] at hb
      rcases hb with rfl | rfl
      · exact n7
      · exact n3)
end Go.Proofs.YtilejcofleeeiaaGreatDoor
