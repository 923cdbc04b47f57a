/- YtjkogfiidhjpcaaDoor: walks, part 108: Compare, Same and Hash are the document's; what is handed in stays; what its owner has written over is compared as it is then. -/
import Derived.Test.YtjkogfiidhjpcaaDoorW102
import Derived.Test.YtjkogfiidhjpcaaDoorW106
import Derived.Test.YtjkogfiidhjpcaaDoorW107
namespace Go.Proofs.YtjkogfiidhjpcaaDoor
open Go Go.K
set_option maxRecDepth 100000
set_option linter.unusedVariables false
set_option linter.unusedSimpArgs false
set_option maxHeartbeats 4000000
theorem VAt.weaken {w : World} {lo lo' : Nat} {v : Vl} {a : Option Addr} {c : Nat} (h : VAt w lo v a c) (hle : lo ≤ lo') : VAt w lo' v a c := ⟨h.hr.weaken hle, h.hc, h.hc2, h.ht, h.hn⟩
theorem FlAt.weaken {w : World} {lo lo' : Nat} {f : Fld} {a : Option Addr} {c : Nat} (h : FlAt w lo f a c) (hle : lo ≤ lo') : FlAt w lo' f a c := ⟨h.hr.weaken hle, h.hc, h.hc2⟩
abbrev fA2 : Fld := .mk [97] false 2 0 0 0 []
abbrev vB (n : Int) : Vl := .mk false n [] []
theorem fA2_at (w : World) (lo : Nat) : FlAt w lo fA2 none 0 := ⟨.nil _, Nat.le_refl _, by omega⟩
theorem vB_at (w : World) (lo : Nat) (n : Int) (hn : -9223372036854775808 ≤ n ∧ n < 9223372036854775808) : VAt w lo (vB n) none 0 := ⟨.nil _, Nat.le_refl _, by omega, by simp [Vl.tx], hn⟩
theorem may_A2 : mayD fA2 = true := by decide
theorem fit_A2 (n : Int) (h : n = 0 ∨ n = 1) : goodD fA2 (vB n) = true := by
  unfold goodD
  rw [fitD]
  rcases h with rfl | rfl <;> simp [Vl.ls, Vl.nu, Vl.tx, Vl.num, Fld.k, wV, wL]
theorem cmpC_A2 : cmpC fA2 (vB 0) (vB 1) = 0 := by unfold cmpC; rw [may_A2, fit_A2 0 (.inl rfl), fit_A2 1 (.inr rfl)]; rfl
theorem cmpO_A2 : cmpO fA2 (vB 0) (vB 1) = -1 := by
  unfold cmpO; rw [if_pos cmpC_A2, ordD]; simp [Vl.nu, Vl.num, Fld.k, cmpZ]
theorem valueOrder_walk (w : World) (hs : SaysAt w) (hTb : TabsAt w) (lo : Nat) (hlo : lo ≤ w.heap.size) (f : Fld) (x y : Vl) (a xa ya : Option Addr) (c xc yc : Nat) (hA : FlAt w lo f a c) (hfn : f.nm.length ≤ 9223372036854775807) (hX : VAt w lo x xa xc) (hY : VAt w lo y ya yc) :
    Calls Tryd.prog 3 #[.agg (f.cells a c).toArray, .agg (x.cells xa xc).toArray, .agg (y.cells ya yc).toArray] w (Rets w (Is (.bool true))) := by
  refine enterT (args := [.agg (f.cells a c).toArray, .agg (x.cells xa xc).toArray, .agg (y.cells ya yc).toArray]) Tryd.func3 rfl Tryd.ntmps3 (congrArg Array.toList Tryd.results3) (by kernel_rfl) (by simp) (Sy.refl w) ?_
  simp (disch := omega) only [push_cast, Nat.reduceEqDiff, Fld.cells, Vl.cells]
  refine newI (fun b3 hb3 hn3 => ?_)
  simp (disch := omega) only [push_cast, Nat.reduceEqDiff, Fld.cells, Vl.cells]
  refine newI (fun b4 hb4 hn4 => ?_)
  simp (disch := omega) only [push_cast, Nat.reduceEqDiff, Fld.cells, Vl.cells]
  refine newI (fun b5 hb5 hn5 => ?_)
  simp (disch := omega) only [push_cast, Nat.reduceEqDiff, Fld.cells, Vl.cells]
  have hL : ∀ x y z : Obj, ∀ p ∈ [(b5, x), (b4, y), (b3, z)], w.heap.size ≤ p.1 := fun x y z p hp => by
    simp only [List.mem_cons, List.mem_nil_iff, or_false] at hp
    rcases hp with rfl | rfl | rfl
    · exact hb5
    · exact hb4
    · exact hb3
  refine callV en_6 (callX_is (fun w' hw' => compare_rung w' (hs.mono hw' (hL _ _ _)) lo (hTb.mono hw' (hL _ _ _)) (Nat.le_trans hlo hw'.size) fA2 (vB 0) (vB 1) none none none 0 0 0 (fA2_at _ _) (by simp [Fld.nm]) (vB_at _ _ _ (by omega)) (vB_at _ _ _ (by omega))) ?_)
  rw [cmpC_A2, cmpO_A2]
  simp (disch := omega) only [push_cast, Nat.reduceEqDiff]
  refine guardX_f rfl (fun _ => ?_) (fun h => absurd rfl h)
  simp (disch := omega) only [push_cast, Nat.reduceEqDiff]
  rw [V_cond]
  simp (disch := omega) only [push_cast, Nat.reduceEqDiff]
  refine condX_d (fun h => absurd rfl h) (fun _ => ?_)
  simp (disch := omega) only [push_cast, Nat.reduceEqDiff]
  refine loadX_agg Shp.eq mem2 rfl rfl ?_
  simp (disch := omega) only [push_cast, Nat.reduceEqDiff]
  refine loadX_agg Shp.eq mem1 rfl rfl ?_
  simp (disch := omega) only [push_cast, Nat.reduceEqDiff]
  refine loadX_agg Shp.eq mem0 rfl rfl ?_
  simp (disch := omega) only [push_cast, Nat.reduceEqDiff]
  refine callV en_7 (callX_is (fun w' hw' => compareR_walk w' lo (Nat.le_trans hlo hw'.size) f x y a xa ya c xc yc (hA.sy hlo hw' (hL _ _ _)) hfn (hX.sy hlo hw' (hL _ _ _)) (hY.sy hlo hw' (hL _ _ _))) ?_)
  simp (disch := omega) only [push_cast, Nat.reduceEqDiff]
  refine loadX_agg Shp.eq mem2 rfl rfl ?_
  simp (disch := omega) only [push_cast, Nat.reduceEqDiff]
  refine loadX_agg Shp.eq mem0 rfl rfl ?_
  simp (disch := omega) only [push_cast, Nat.reduceEqDiff]
  refine loadX_agg Shp.eq mem1 rfl rfl ?_
  simp (disch := omega) only [push_cast, Nat.reduceEqDiff]
  refine callV en_7 (callX_is (fun w' hw' => compareR_walk w' lo (Nat.le_trans hlo hw'.size) f y x a ya xa c yc xc (hA.sy hlo hw' (hL _ _ _)) hfn (hY.sy hlo hw' (hL _ _ _)) (hX.sy hlo hw' (hL _ _ _))) ?_)
  simp (disch := omega) only [push_cast, Nat.reduceEqDiff]
  refine loadX_agg Shp.eq mem1 rfl rfl ?_
  simp (disch := omega) only [push_cast, Nat.reduceEqDiff]
  refine callV en_8 (callX_is (fun w' hw' => heavy_walk w' lo (Nat.le_trans hlo hw'.size) x xa xc (hX.sy hlo hw' (hL _ _ _))) ?_)
  simp (disch := omega) only [push_cast, Nat.reduceEqDiff]
  refine loadX_agg Shp.eq mem0 rfl rfl ?_
  simp (disch := omega) only [push_cast, Nat.reduceEqDiff]
  refine callV en_8 (callX_is (fun w' hw' => heavy_walk w' lo (Nat.le_trans hlo hw'.size) y ya yc (hY.sy hlo hw' (hL _ _ _))) ?_)
  simp (disch := omega) only [push_cast, Nat.reduceEqDiff]
  refine forgetG (fun e => e 3 = .pointer (some ⟨b3, 0, none⟩) ∧ e 4 = .pointer (some ⟨b4, 0, none⟩) ∧ e 5 = .pointer (some ⟨b5, 0, none⟩) ∧ e 9 = i64 (cmpO f x y) ∧ e 10 = i64 (cmpC f x y) ∧ e 11 = i64 (cmpO f y x) ∧ e 12 = i64 (cmpC f y x) ∧ e 14 = .bool (heavyD y) ∧ e 60 = .bool (heavyD x)) ⟨rfl, rfl, rfl, rfl, rfl, rfl, rfl, rfl, rfl⟩ ?_
  rintro e ⟨h3, h4, h5, h9, h10, h11, h12, h14, h60⟩
  refine guardX_bf h60 (fun hxv => ?_) (fun hxv => ?_)
  rotate_left
  ·
    --<
    simp (disch := omega) only [push_cast, Nat.reduceEqDiff, h3, h4, h5, h9, h10, h11, h12, h14]
    rw [V_cond]
    simp (disch := omega) only [push_cast, Nat.reduceEqDiff, h3, h4, h5, h9, h10, h11, h12, h14]
    try
      refine condX_b (fun _ => ?_) (fun h => absurd (hyv.symm.trans h) (by decide))
      simp (disch := omega) only [push_cast, Nat.reduceEqDiff, h3, h4, h5, h9, h10, h11, h12, h14]
    refine loadX_agg Shp.eq mem2 rfl rfl ?_
    simp (disch := omega) only [push_cast, Nat.reduceEqDiff, h3, h4, h5, h9, h10, h11, h12, h14]
    refine loadX_agg Shp.eq mem1 rfl rfl ?_
    simp (disch := omega) only [push_cast, Nat.reduceEqDiff, h3, h4, h5, h9, h10, h11, h12, h14]
    refine loadX_agg Shp.eq mem0 rfl rfl ?_
    simp (disch := omega) only [push_cast, Nat.reduceEqDiff, h3, h4, h5, h9, h10, h11, h12, h14]
    refine callV en_6 (callX_is (fun w' hw' => compare_rung w' (hs.mono hw' (hL _ _ _)) lo (hTb.mono hw' (hL _ _ _)) (Nat.le_trans hlo hw'.size) f x y a xa ya c xc yc (hA.sy hlo hw' (hL _ _ _)) hfn (hX.sy hlo hw' (hL _ _ _)) (hY.sy hlo hw' (hL _ _ _))) ?_)
    simp (disch := omega) only [push_cast, Nat.reduceEqDiff, h3, h4, h5, h9, h10, h11, h12, h14]
    refine guardX_t rfl (fun _ => ?_) (fun h => absurd trivial h)
    simp (disch := omega) only [push_cast, Nat.reduceEqDiff, h3, h4, h5, h9, h10, h11, h12, h14]
    exact finIs (hL _ _ _) rfl
    -->
  simp (disch := omega) only [push_cast, Nat.reduceEqDiff, h3, h4, h5, h9, h10, h11, h12, h14]
  rcases hyv : heavyD y with _ | _
  rotate_left
  ·
    --<
    rw [V_cond]
    simp (disch := omega) only [push_cast, Nat.reduceEqDiff, h3, h4, h5, h9, h10, h11, h12, h14]
    try
      refine condX_b (fun _ => ?_) (fun h => absurd (hyv.symm.trans h) (by decide))
      simp (disch := omega) only [push_cast, Nat.reduceEqDiff, h3, h4, h5, h9, h10, h11, h12, h14]
    refine loadX_agg Shp.eq mem2 rfl rfl ?_
    simp (disch := omega) only [push_cast, Nat.reduceEqDiff, h3, h4, h5, h9, h10, h11, h12, h14]
    refine loadX_agg Shp.eq mem1 rfl rfl ?_
    simp (disch := omega) only [push_cast, Nat.reduceEqDiff, h3, h4, h5, h9, h10, h11, h12, h14]
    refine loadX_agg Shp.eq mem0 rfl rfl ?_
    simp (disch := omega) only [push_cast, Nat.reduceEqDiff, h3, h4, h5, h9, h10, h11, h12, h14]
    refine callV en_6 (callX_is (fun w' hw' => compare_rung w' (hs.mono hw' (hL _ _ _)) lo (hTb.mono hw' (hL _ _ _)) (Nat.le_trans hlo hw'.size) f x y a xa ya c xc yc (hA.sy hlo hw' (hL _ _ _)) hfn (hX.sy hlo hw' (hL _ _ _)) (hY.sy hlo hw' (hL _ _ _))) ?_)
    simp (disch := omega) only [push_cast, Nat.reduceEqDiff, h3, h4, h5, h9, h10, h11, h12, h14]
    refine guardX_t rfl (fun _ => ?_) (fun h => absurd trivial h)
    simp (disch := omega) only [push_cast, Nat.reduceEqDiff, h3, h4, h5, h9, h10, h11, h12, h14]
    exact finIs (hL _ _ _) rfl
    -->
  try rw [V_cond]
  simp (disch := omega) only [push_cast, Nat.reduceEqDiff, h3, h4, h5, h9, h10, h11, h12, h14]
  have wx : wV x ≤ 2147483647 := by have := of_decide_eq_false hxv; omega
  have wy : wV y ≤ 2147483647 := by have := of_decide_eq_false hyv; omega
  refine loadX_agg Shp.eq mem1 rfl rfl ?_
  simp (disch := omega) only [push_cast, Nat.reduceEqDiff, h3, h4, h5, h9, h10, h11, h12, h14]
  refine callV en_9 (callX_newR (fun w' hw' => twin_walk w' lo x xa xc (Nat.le_trans hlo hw'.size) (hX.sy hlo hw' (hL _ _ _)) wx) (fun u M1 hM1 hMn1 hu => ?_))
  obtain ⟨a1, c1, rfl, hO1⟩ := hu
  simp (disch := omega) only [push_cast, Nat.reduceEqDiff, h3, h4, h5, h9, h10, h11, h12, h14, Vl.cells]
  refine newI (fun b17 hb17 hn17 => ?_)
  simp (disch := omega) only [push_cast, Nat.reduceEqDiff, h3, h4, h5, h9, h10, h11, h12, h14]
  refine storeX 0 rfl Siz.eq rfl rfl (by simp [Value.oneCell']) (by simp) ?_
  simp (disch := omega) only [push_cast, Nat.reduceEqDiff, h3, h4, h5, h9, h10, h11, h12, h14]
  have hL1 : ∀ x y z u : Obj, ∀ p ∈ (b17, x) :: (b5, y) :: (b4, z) :: (b3, u) :: M1, w.heap.size ≤ p.1 := fun x y z u p hp => by
    simp only [List.mem_cons] at hp
    rcases hp with rfl | rfl | rfl | rfl | hp
    · exact hb17
    · exact hb5
    · exact hb4
    · exact hb3
    · exact hM1 p hp
  refine loadX_agg Shp.eq mem1 rfl rfl ?_
  simp (disch := omega) only [push_cast, Nat.reduceEqDiff, h3, h4, h5, h9, h10, h11, h12, h14]
  refine callV en_9 (callX_newR (fun w' hw' => twin_walk w' lo y ya yc (Nat.le_trans hlo hw'.size) (hY.sy hlo hw' (hL1 _ _ _ _)) wy) (fun u M2 hM2 hMn2 hu => ?_))
  obtain ⟨a2, c2, rfl, hO2⟩ := hu
  simp (disch := omega) only [push_cast, Nat.reduceEqDiff, h3, h4, h5, h9, h10, h11, h12, h14, Vl.cells]
  refine newI (fun b18 hb18 hn18 => ?_)
  simp (disch := omega) only [push_cast, Nat.reduceEqDiff, h3, h4, h5, h9, h10, h11, h12, h14]
  refine storeX 0 rfl Siz.eq rfl rfl (by simp [Value.oneCell']) (by simp) ?_
  simp (disch := omega) only [push_cast, Nat.reduceEqDiff, h3, h4, h5, h9, h10, h11, h12, h14]
  have hL2 : ∀ (x y z u v : Obj) (M : Own), (∀ p ∈ M, w.heap.size ≤ p.1) → ∀ p ∈ (b18, x) :: (b17, y) :: (b5, z) :: (b4, u) :: (b3, v) :: M, w.heap.size ≤ p.1 := fun x y z u v M hM p hp => by
    simp only [List.mem_cons] at hp
    rcases hp with rfl | rfl | rfl | rfl | rfl | hp
    · exact hb18
    · exact hb17
    · exact hb5
    · exact hb4
    · exact hb3
    · exact hM p hp
  have hM12 : ∀ p ∈ M1 ++ M2, w.heap.size ≤ p.1 := fun p hp => by
    rcases List.mem_append.1 hp with hp | hp
    · exact hM1 p hp
    · exact hM2 p hp
  have kT1 := fun (x' y' z' u' v' : Obj) (w' : World) (hw' : Sy w ((b18, x') :: (b17, y') :: (b5, z') :: (b4, u') :: (b3, v') :: (M1 ++ M2)) w') => OwV.at_ hw' x hO1 (fun p hp => by simp [hp])
  have kT2 := fun (x' y' z' u' v' : Obj) (w' : World) (hw' : Sy w ((b18, x') :: (b17, y') :: (b5, z') :: (b4, u') :: (b3, v') :: (M1 ++ M2)) w') => OwV.at_ hw' y hO2 (fun p hp => by simp [hp])
  have kF := fun (x' y' z' u' v' : Obj) (w' : World) (hw' : Sy w ((b18, x') :: (b17, y') :: (b5, z') :: (b4, u') :: (b3, v') :: (M1 ++ M2)) w') => (hA.sy hlo hw' (hL2 _ _ _ _ _ _ hM12)).weaken (Nat.le_trans hlo hw'.size)
  refine loadX_agg Shp.eq mem4 rfl rfl ?_
  simp (disch := omega) only [push_cast, Nat.reduceEqDiff, h3, h4, h5, h9, h10, h11, h12, h14]
  refine loadX_agg Shp.eq mem1 rfl rfl ?_
  simp (disch := omega) only [push_cast, Nat.reduceEqDiff, h3, h4, h5, h9, h10, h11, h12, h14]
  refine loadX_agg Shp.eq mem0 rfl rfl ?_
  simp (disch := omega) only [push_cast, Nat.reduceEqDiff, h3, h4, h5, h9, h10, h11, h12, h14]
  refine callV en_6 (callX_is (fun w' hw' => compare_rung w' (hs.mono hw' (hL2 _ _ _ _ _ _ hM12)) w'.heap.size (hTb.mono hw' (hL2 _ _ _ _ _ _ hM12)) (Nat.le_refl _) f x y a a1 a2 c c1 c2 (kF _ _ _ _ _ w' hw') hfn (kT1 _ _ _ _ _ w' hw') (kT2 _ _ _ _ _ w' hw')) ?_)
  simp (disch := omega) only [push_cast, Nat.reduceEqDiff, h3, h4, h5, h9, h10, h11, h12, h14]
  refine loadX_agg Shp.eq mem4 rfl rfl ?_
  simp (disch := omega) only [push_cast, Nat.reduceEqDiff, h3, h4, h5, h9, h10, h11, h12, h14]
  refine loadX_agg Shp.eq mem0 rfl rfl ?_
  simp (disch := omega) only [push_cast, Nat.reduceEqDiff, h3, h4, h5, h9, h10, h11, h12, h14]
  refine loadX_agg Shp.eq mem1 rfl rfl ?_
  simp (disch := omega) only [push_cast, Nat.reduceEqDiff, h3, h4, h5, h9, h10, h11, h12, h14]
  refine callV en_6 (callX_is (fun w' hw' => compare_rung w' (hs.mono hw' (hL2 _ _ _ _ _ _ hM12)) w'.heap.size (hTb.mono hw' (hL2 _ _ _ _ _ _ hM12)) (Nat.le_refl _) f y x a a2 a1 c c2 c1 (kF _ _ _ _ _ w' hw') hfn (kT2 _ _ _ _ _ w' hw') (kT1 _ _ _ _ _ w' hw')) ?_)
  simp (disch := omega) only [push_cast, Nat.reduceEqDiff, h3, h4, h5, h9, h10, h11, h12, h14]
  refine forgetG (fun e => e 3 = .pointer (some ⟨b3, 0, none⟩) ∧ e 4 = .pointer (some ⟨b4, 0, none⟩) ∧ e 5 = .pointer (some ⟨b5, 0, none⟩) ∧ e 17 = .pointer (some ⟨b17, 0, none⟩) ∧ e 18 = .pointer (some ⟨b18, 0, none⟩) ∧ e 10 = i64 (cmpC f x y) ∧ e 11 = i64 (cmpO f y x) ∧ e 12 = i64 (cmpC f y x) ∧ e 20 = i64 (cmpC f x y) ∧ e 21 = i64 (cmpO f y x) ∧ e 22 = i64 (cmpC f y x) ∧ e 99 = .bool (decide (cmpO f x y ≠ cmpO f x y))) ⟨h3, h4, h5, rfl, rfl, h10, h11, h12, rfl, rfl, rfl, rfl⟩ ?_
  clear h3 h4 h5 h9 h10 h11 h12 h14 h60 e
  rintro e ⟨h3, h4, h5, h17, h18, h10, h11, h12, h20, h21, h22, h99⟩
  refine guardX_f h99 (fun _ => ?_) (fun h => absurd rfl h)
  simp (disch := omega) only [push_cast, Nat.reduceEqDiff, h3, h4, h5, h17, h18, h10, h11, h12, h20, h21, h22]
  refine guardX_f rfl (fun _ => ?_) (fun h => (by first | exact absurd rfl h | exact absurd trivial h))
  simp (disch := omega) only [push_cast, Nat.reduceEqDiff, h3, h4, h5, h17, h18, h10, h11, h12, h20, h21, h22]
  refine guardX_f rfl (fun _ => ?_) (fun h => (by first | exact absurd rfl h | exact absurd trivial h))
  simp (disch := omega) only [push_cast, Nat.reduceEqDiff, h3, h4, h5, h17, h18, h10, h11, h12, h20, h21, h22]
  rw [V_cond]
  simp (disch := omega) only [push_cast, Nat.reduceEqDiff, h3, h4, h5, h17, h18, h10, h11, h12, h20, h21, h22]
  refine condX_d (fun h => (by first | exact absurd rfl h | exact absurd trivial h)) (fun _ => ?_)
  simp (disch := omega) only [push_cast, Nat.reduceEqDiff, h3, h4, h5, h17, h18, h10, h11, h12, h20, h21, h22]
  refine forgetS (fun e => e 3 = .pointer (some ⟨b3, 0, none⟩) ∧ e 4 = .pointer (some ⟨b4, 0, none⟩) ∧ e 5 = .pointer (some ⟨b5, 0, none⟩) ∧ e 17 = .pointer (some ⟨b17, 0, none⟩) ∧ e 18 = .pointer (some ⟨b18, 0, none⟩)) ⟨h3, h4, h5, h17, h18⟩ ?_
  clear h3 h4 h5 h17 h18 h10 h11 h12 h20 h21 h22 h99 e
  rintro e ⟨h3, h4, h5, h17, h18⟩
  refine drawQT (by kernel_rfl) (by kernel_rfl) mixed (by kernel_rfl) ?_
  simp (disch := omega) only [push_cast, Nat.reduceEqDiff, h3, h4, h5, h17, h18]
  refine loadX_agg Shp.eq mem1 rfl rfl ?_
  simp (disch := omega) only [push_cast, Nat.reduceEqDiff, h3, h4, h5, h17, h18]
  refine loadX_agg Shp.eq mem0 rfl rfl ?_
  simp (disch := omega) only [push_cast, Nat.reduceEqDiff, h3, h4, h5, h17, h18]
  refine qcallV en_10 (qcallX_is (.bool (sameV x y)) (fun w' hw' => same_all _ w' w'.heap.size x y a1 a2 c1 c2 (Nat.le_refl _) (Nat.le_refl _) (kT1 _ _ _ _ _ w' hw') (kT2 _ _ _ _ _ w' hw')) ?_)
  simp (disch := omega) only [push_cast, Nat.reduceEqDiff, h3, h4, h5, h17, h18]
  refine loadX_agg Shp.eq mem3 rfl rfl ?_
  simp (disch := omega) only [push_cast, Nat.reduceEqDiff, h3, h4, h5, h17, h18]
  refine loadX_agg Shp.eq mem2 rfl rfl ?_
  simp (disch := omega) only [push_cast, Nat.reduceEqDiff, h3, h4, h5, h17, h18]
  refine qcallV en_11 (qcallX_is (.bool (sameV x y)) (fun w' hw' => sameR_all _ w' w'.heap.size x y xa ya xc yc (Nat.le_refl _) (Nat.le_refl _) ((hX.sy hlo hw' (hL2 _ _ _ _ _ _ hM12)).weaken (Nat.le_trans hlo hw'.size)) ((hY.sy hlo hw' (hL2 _ _ _ _ _ _ hM12)).weaken (Nat.le_trans hlo hw'.size))) ?_)
  simp (disch := omega) only [push_cast, Nat.reduceEqDiff, h3, h4, h5, h17, h18, beq_self_eq_true]
  refine loadX_agg Shp.eq mem1 rfl rfl ?_
  simp (disch := omega) only [push_cast, Nat.reduceEqDiff, h3, h4, h5, h17, h18]
  refine loadX_agg Shp.eq mem3 rfl rfl ?_
  simp (disch := omega) only [push_cast, Nat.reduceEqDiff, h3, h4, h5, h17, h18]
  refine qcallV en_10 (qcallX_is (.bool (sameV x x)) (fun w' hw' => same_all _ w' w'.heap.size x x a1 xa c1 xc (Nat.le_refl _) (Nat.le_refl _) (kT1 _ _ _ _ _ w' hw') ((hX.sy hlo hw' (hL2 _ _ _ _ _ _ hM12)).weaken (Nat.le_trans hlo hw'.size))) ?_)
  rw [show sameV x x = true from (sameV_iff x x).2 rfl]
  simp (disch := omega) only [push_cast, Nat.reduceEqDiff, h3, h4, h5, h17, h18]
  refine drawQT (by kernel_rfl) (by kernel_rfl) mixed (by kernel_rfl) ?_
  simp (disch := omega) only [push_cast, Nat.reduceEqDiff, h3, h4, h5, h17, h18]
  refine loadX_agg Shp.eq mem0 rfl rfl ?_
  simp (disch := omega) only [push_cast, Nat.reduceEqDiff, h3, h4, h5, h17, h18]
  refine qcallV en_12 (qcallX_is (.int .u64 (hashP y)) (fun w' hw' => hash_walk w' w'.heap.size y a2 c2 (Nat.le_refl _) (kT2 _ _ _ _ _ w' hw')) ?_)
  simp (disch := omega) only [push_cast, Nat.reduceEqDiff, h3, h4, h5, h17, h18]
  refine loadX_agg Shp.eq mem2 rfl rfl ?_
  simp (disch := omega) only [push_cast, Nat.reduceEqDiff, h3, h4, h5, h17, h18]
  refine qcallV en_13 (qcallX_is (.int .u64 (hashP y)) (fun w' hw' => hashR_walk w' w'.heap.size y ya yc (Nat.le_refl _) ((hY.sy hlo hw' (hL2 _ _ _ _ _ _ hM12)).weaken (Nat.le_trans hlo hw'.size))) ?_)
  simp (disch := omega) only [push_cast, Nat.reduceEqDiff, h3, h4, h5, h17, h18, decide_true]
  refine loadX_agg Shp.eq mem1 rfl rfl ?_
  simp (disch := omega) only [push_cast, Nat.reduceEqDiff, h3, h4, h5, h17, h18]
  refine qcallV en_12 (qcallX_is (.int .u64 (hashP x)) (fun w' hw' => hash_walk w' w'.heap.size x a1 c1 (Nat.le_refl _) (kT1 _ _ _ _ _ w' hw')) ?_)
  simp (disch := omega) only [push_cast, Nat.reduceEqDiff, h3, h4, h5, h17, h18]
  refine loadX_agg Shp.eq mem3 rfl rfl ?_
  simp (disch := omega) only [push_cast, Nat.reduceEqDiff, h3, h4, h5, h17, h18]
  refine qcallV en_13 (qcallX_is (.int .u64 (hashP x)) (fun w' hw' => hashR_walk w' w'.heap.size x xa xc (Nat.le_refl _) ((hX.sy hlo hw' (hL2 _ _ _ _ _ _ hM12)).weaken (Nat.le_trans hlo hw'.size))) ?_)
  simp (disch := omega) only [push_cast, Nat.reduceEqDiff, h3, h4, h5, h17, h18, decide_true]
  refine loadX_agg Shp.eq mem1 rfl rfl ?_
  simp (disch := omega) only [push_cast, Nat.reduceEqDiff, h3, h4, h5, h17, h18]
  refine loadX_agg Shp.eq mem3 rfl rfl ?_
  simp (disch := omega) only [push_cast, Nat.reduceEqDiff, h3, h4, h5, h17, h18]
  refine callV en_14 (callX_is (fun w' hw' => stays_walk w' w'.heap.size M1 x a1 xa c1 xc (HoldsK.of_sy hw' (fun p hp => by simp [hp])) hO1 (Nat.le_refl _) ((hX.sy hlo hw' (hL2 _ _ _ _ _ _ hM12)).weaken (Nat.le_trans hlo hw'.size))) ?_)
  simp (disch := omega) only [push_cast, Nat.reduceEqDiff, h3, h4, h5, h17, h18]
  refine loadX_agg Shp.eq mem0 rfl rfl ?_
  simp (disch := omega) only [push_cast, Nat.reduceEqDiff, h3, h4, h5, h17, h18]
  refine loadX_agg Shp.eq mem2 rfl rfl ?_
  simp (disch := omega) only [push_cast, Nat.reduceEqDiff, h3, h4, h5, h17, h18]
  refine callV en_14 (callX_is (fun w' hw' => stays_walk w' w'.heap.size M2 y a2 ya c2 yc (HoldsK.of_sy hw' (fun p hp => by simp [hp])) hO2 (Nat.le_refl _) ((hY.sy hlo hw' (hL2 _ _ _ _ _ _ hM12)).weaken (Nat.le_trans hlo hw'.size))) ?_)
  simp (disch := omega) only [push_cast, Nat.reduceEqDiff, h3, h4, h5, h17, h18]
  refine forgetG (fun e => e 3 = .pointer (some ⟨b3, 0, none⟩) ∧ e 17 = .pointer (some ⟨b17, 0, none⟩) ∧ e 18 = .pointer (some ⟨b18, 0, none⟩) ∧ e 24 = .bool true ∧ e 25 = .bool true ∧ e 26 = .bool true ∧ e 146 = .bool (!true)) ⟨h3, h17, h18, rfl, rfl, rfl, rfl⟩ ?_
  clear h3 h4 h5 h17 h18 e
  rintro e ⟨h3, h17, h18, h24, h25, h26, h146⟩
  refine guardX_bf h146 (fun _ => ?_) (fun h => absurd h (by decide))
  simp (disch := omega) only [push_cast, Nat.reduceEqDiff, h3, h17, h18, h24, h25, h26, Bool.not_true]
  try rw [V_cond]
  try simp (disch := omega) only [push_cast, Nat.reduceEqDiff, h3, h17, h18]
  try
    refine condX_b (fun h => by cases h) (fun _ => ?_)
    simp (disch := omega) only [push_cast, Nat.reduceEqDiff, h3, h17, h18]
  refine ldOne Shp.eq mem1 rfl ?_
  simp (disch := omega) only [push_cast, Nat.reduceEqDiff, h3, h17, h18]
  refine callV en_15 (callX_base (fun w' hw' => turn_walk w w' x M1 _ a1 c1 (OwV.tr x hO1) (hw'.perm (List.perm_append_comm_assoc [_, _, _, _, _] M1 M2)) (fun p hp => ?_)) ?_)
  · rcases List.mem_append.1 hp with hp | hp
    · exact hM1 p hp
    · exact hL2 _ _ _ _ _ _ hM2 p hp
  rintro e' w' ⟨rfl, K1, tr1, q2, hK1⟩
  refine ⟨_, _, rfl, q2.perm (List.perm_append_comm_assoc [_, _, _, _, _] K1 M2).symm, ?_⟩
  clear q2
  simp (disch := omega) only [push_cast, Nat.reduceEqDiff, h3, h17, h18]
  refine forgetS (fun e => e 3 = .pointer (some ⟨b3, 0, none⟩) ∧ e 17 = .pointer (some ⟨b17, 0, none⟩) ∧ e 18 = .pointer (some ⟨b18, 0, none⟩)) ⟨h3, h17, h18⟩ ?_
  clear h3 h17 h18 h24 h25 h26 h146 e kT1 kT2 kF
  rintro e ⟨h3, h17, h18⟩
  have hM12 : ∀ p ∈ K1 ++ M2, w.heap.size ≤ p.1 := fun p hp => by
    rcases List.mem_append.1 hp with hp | hp
    · exact hK1 p hp
    · exact hM2 p hp
  obtain ⟨x1, hx1⟩ : ∃ x1 : Vl, x1 = .mk x.nu x.num x.tx (turnL x.ls) := ⟨_, rfl⟩
  have hce : x1.cells a1 c1 = [.bool x.nu, i64 x.num, str x.tx, .slice a1 x.ls.length c1] := by rw [hx1]; simp [Vl.cells, Vl.nu, Vl.num, Vl.tx, Vl.ls, turnL_len]
  rw [← hx1] at tr1
  have kT1 := fun (x' y' z' u' v' : Obj) (w' : World) (hw' : Sy w ((b18, x') :: (b17, y') :: (b5, z') :: (b4, u') :: (b3, v') :: (K1 ++ M2)) w') => TrV.at_ hw' x1 tr1 (fun p hp => by simp [hp])
  have kT2 := fun (x' y' z' u' v' : Obj) (w' : World) (hw' : Sy w ((b18, x') :: (b17, y') :: (b5, z') :: (b4, u') :: (b3, v') :: (K1 ++ M2)) w') => OwV.at_ hw' y hO2 (fun p hp => by simp [hp])
  have kF := fun (x' y' z' u' v' : Obj) (w' : World) (hw' : Sy w ((b18, x') :: (b17, y') :: (b5, z') :: (b4, u') :: (b3, v') :: (K1 ++ M2)) w') => (hA.sy hlo hw' (hL2 _ _ _ _ _ _ hM12)).weaken (Nat.le_trans hlo hw'.size)
  refine drawQT (by kernel_rfl) (by kernel_rfl) mixed (by kernel_rfl) ?_
  simp (disch := omega) only [push_cast, Nat.reduceEqDiff, h3, h17, h18]
  refine loadX_agg Shp.eq mem1 rfl rfl ?_
  simp (disch := omega) only [push_cast, Nat.reduceEqDiff, h3, h17, h18]
  refine qcallV en_12 (qcallX_is (.int .u64 (hashP x1)) (fun w' hw' => by have := hash_walk w' w'.heap.size x1 a1 c1 (Nat.le_refl _) (kT1 _ _ _ _ _ w' hw'); rw [hce] at this; exact this) ?_)
  simp (disch := omega) only [push_cast, Nat.reduceEqDiff, h3, h17, h18]
  refine loadX_agg Shp.eq mem1 rfl rfl ?_
  simp (disch := omega) only [push_cast, Nat.reduceEqDiff, h3, h17, h18]
  refine qcallV en_13 (qcallX_is (.int .u64 (hashP x1)) (fun w' hw' => by have := hashR_walk w' w'.heap.size x1 a1 c1 (Nat.le_refl _) (kT1 _ _ _ _ _ w' hw'); rw [hce] at this; exact this) ?_)
  simp (disch := omega) only [push_cast, Nat.reduceEqDiff, h3, h17, h18, decide_true]
  refine loadX_agg Shp.eq mem4 rfl rfl ?_
  simp (disch := omega) only [push_cast, Nat.reduceEqDiff, h3, h17, h18]
  refine loadX_agg Shp.eq mem1 rfl rfl ?_
  simp (disch := omega) only [push_cast, Nat.reduceEqDiff, h3, h17, h18]
  refine loadX_agg Shp.eq mem0 rfl rfl ?_
  simp (disch := omega) only [push_cast, Nat.reduceEqDiff, h3, h17, h18]
  refine callV en_7 (callX_is (fun w' hw' => by have := compareR_walk w' w'.heap.size (Nat.le_refl _) f x1 y a a1 a2 c c1 c2 (kF _ _ _ _ _ w' hw') hfn (kT1 _ _ _ _ _ w' hw') (kT2 _ _ _ _ _ w' hw'); rw [hce] at this; exact this) ?_)
  simp (disch := omega) only [push_cast, Nat.reduceEqDiff, h3, h17, h18]
  refine loadX_agg Shp.eq mem4 rfl rfl ?_
  simp (disch := omega) only [push_cast, Nat.reduceEqDiff, h3, h17, h18]
  refine loadX_agg Shp.eq mem1 rfl rfl ?_
  simp (disch := omega) only [push_cast, Nat.reduceEqDiff, h3, h17, h18]
  refine loadX_agg Shp.eq mem0 rfl rfl ?_
  simp (disch := omega) only [push_cast, Nat.reduceEqDiff, h3, h17, h18]
  refine callV en_6 (callX_is (fun w' hw' => by have := compare_rung w' (hs.mono hw' (hL2 _ _ _ _ _ _ hM12)) w'.heap.size (hTb.mono hw' (hL2 _ _ _ _ _ _ hM12)) (Nat.le_refl _) f x1 y a a1 a2 c c1 c2 (kF _ _ _ _ _ w' hw') hfn (kT1 _ _ _ _ _ w' hw') (kT2 _ _ _ _ _ w' hw'); rw [hce] at this; exact this) ?_)
  simp (disch := omega) only [push_cast, Nat.reduceEqDiff, h3, h17, h18]
  refine forgetG (fun e => e 3 = .pointer (some ⟨b3, 0, none⟩) ∧ e 17 = .pointer (some ⟨b17, 0, none⟩) ∧ e 18 = .pointer (some ⟨b18, 0, none⟩) ∧ e 9 = i64 (cmpO f x1 y) ∧ e 10 = i64 (cmpC f x1 y) ∧ e 19 = i64 (cmpO f x1 y) ∧ e 20 = i64 (cmpC f x1 y) ∧ e 182 = .bool (!true)) ⟨h3, h17, h18, rfl, rfl, rfl, rfl, rfl⟩ ?_
  clear h3 h17 h18 e
  rintro e ⟨h3, h17, h18, h9, h10, h19, h20, h182⟩
  refine guardX_bf h182 (fun _ => ?_) (fun h => absurd h (by decide))
  simp (disch := omega) only [push_cast, Nat.reduceEqDiff, h3, h17, h18, h9, h10, h19, h20]
  refine guardX_f rfl (fun _ => ?_) (fun h => (by first | exact absurd rfl h | exact absurd trivial h))
  simp (disch := omega) only [push_cast, Nat.reduceEqDiff, h3, h17, h18, h9, h10, h19, h20]
  rw [V_cond]
  simp (disch := omega) only [push_cast, Nat.reduceEqDiff, h3, h17, h18, h9, h10, h19, h20]
  refine condX_d (fun h => (by first | exact absurd rfl h | exact absurd trivial h)) (fun _ => ?_)
  simp (disch := omega) only [push_cast, Nat.reduceEqDiff, h3, h17, h18]
  refine ldOne Shp.eq mem0 rfl ?_
  simp (disch := omega) only [push_cast, Nat.reduceEqDiff, h3, h17, h18]
  have pm : ∀ A B C : Own, (A ++ (B ++ C)).Perm (C ++ (A ++ B)) := fun A B C => by rw [← List.append_assoc]; exact List.perm_append_comm
  refine callV en_15 (callX_base (fun w' hw' => turn_walk w w' y M2 _ a2 c2 (OwV.tr y hO2) (hw'.perm (pm [_, _, _, _, _] K1 M2)) (fun p hp => ?_)) ?_)
  · rcases List.mem_append.1 hp with hp | hp
    · exact hM2 p hp
    · exact hL2 _ _ _ _ _ _ hK1 p hp
  rintro e' w' ⟨rfl, K2, tr2, q2, hK2⟩
  refine ⟨_, _, rfl, q2.perm (pm [_, _, _, _, _] K1 K2).symm, ?_⟩
  clear q2
  simp (disch := omega) only [push_cast, Nat.reduceEqDiff, h3, h17, h18]
  clear h9 h10 h19 h20 h182 kT1 kT2 kF hM12
  have hM12 : ∀ p ∈ K1 ++ K2, w.heap.size ≤ p.1 := fun p hp => by
    rcases List.mem_append.1 hp with hp | hp
    · exact hK1 p hp
    · exact hK2 p hp
  obtain ⟨y1, hy1⟩ : ∃ y1 : Vl, y1 = .mk y.nu y.num y.tx (turnL y.ls) := ⟨_, rfl⟩
  have hcy : y1.cells a2 c2 = [.bool y.nu, i64 y.num, str y.tx, .slice a2 y.ls.length c2] := by rw [hy1]; simp [Vl.cells, Vl.nu, Vl.num, Vl.tx, Vl.ls, turnL_len]
  rw [← hy1] at tr2
  have kT1 := fun (x' y' z' u' v' : Obj) (w' : World) (hw' : Sy w ((b18, x') :: (b17, y') :: (b5, z') :: (b4, u') :: (b3, v') :: (K1 ++ K2)) w') => TrV.at_ hw' x1 tr1 (fun p hp => by simp [hp])
  have kT2 := fun (x' y' z' u' v' : Obj) (w' : World) (hw' : Sy w ((b18, x') :: (b17, y') :: (b5, z') :: (b4, u') :: (b3, v') :: (K1 ++ K2)) w') => TrV.at_ hw' y1 tr2 (fun p hp => by simp [hp])
  have kF := fun (x' y' z' u' v' : Obj) (w' : World) (hw' : Sy w ((b18, x') :: (b17, y') :: (b5, z') :: (b4, u') :: (b3, v') :: (K1 ++ K2)) w') => (hA.sy hlo hw' (hL2 _ _ _ _ _ _ hM12)).weaken (Nat.le_trans hlo hw'.size)
  refine loadX_agg Shp.eq mem4 rfl rfl ?_
  simp (disch := omega) only [push_cast, Nat.reduceEqDiff, h3, h17, h18]
  refine loadX_agg Shp.eq mem1 rfl rfl ?_
  simp (disch := omega) only [push_cast, Nat.reduceEqDiff, h3, h17, h18]
  refine loadX_agg Shp.eq mem0 rfl rfl ?_
  simp (disch := omega) only [push_cast, Nat.reduceEqDiff, h3, h17, h18]
  refine callV en_7 (callX_is (fun w' hw' => by have := compareR_walk w' w'.heap.size (Nat.le_refl _) f x1 y1 a a1 a2 c c1 c2 (kF _ _ _ _ _ w' hw') hfn (kT1 _ _ _ _ _ w' hw') (kT2 _ _ _ _ _ w' hw'); rw [hce, hcy] at this; exact this) ?_)
  simp (disch := omega) only [push_cast, Nat.reduceEqDiff, h3, h17, h18]
  refine loadX_agg Shp.eq mem4 rfl rfl ?_
  simp (disch := omega) only [push_cast, Nat.reduceEqDiff, h3, h17, h18]
  refine loadX_agg Shp.eq mem1 rfl rfl ?_
  simp (disch := omega) only [push_cast, Nat.reduceEqDiff, h3, h17, h18]
  refine loadX_agg Shp.eq mem0 rfl rfl ?_
  simp (disch := omega) only [push_cast, Nat.reduceEqDiff, h3, h17, h18]
  refine callV en_6 (callX_is (fun w' hw' => by have := compare_rung w' (hs.mono hw' (hL2 _ _ _ _ _ _ hM12)) w'.heap.size (hTb.mono hw' (hL2 _ _ _ _ _ _ hM12)) (Nat.le_refl _) f x1 y1 a a1 a2 c c1 c2 (kF _ _ _ _ _ w' hw') hfn (kT1 _ _ _ _ _ w' hw') (kT2 _ _ _ _ _ w' hw'); rw [hce, hcy] at this; exact this) ?_)
  simp (disch := omega) only [push_cast, Nat.reduceEqDiff, h3, h17, h18]
  refine forgetS (fun e => e 3 = .pointer (some ⟨b3, 0, none⟩) ∧ e 17 = .pointer (some ⟨b17, 0, none⟩) ∧ e 18 = .pointer (some ⟨b18, 0, none⟩) ∧ e 9 = i64 (cmpO f x1 y1) ∧ e 10 = i64 (cmpC f x1 y1) ∧ e 19 = i64 (cmpO f x1 y1) ∧ e 20 = i64 (cmpC f x1 y1)) ⟨h3, h17, h18, rfl, rfl, rfl, rfl⟩ ?_
  clear h3 h17 h18 e
  rintro e ⟨h3, h17, h18, h9, h10, h19, h20⟩
  refine drawQT (by kernel_rfl) (by kernel_rfl) mixed (by kernel_rfl) ?_
  simp (disch := omega) only [push_cast, Nat.reduceEqDiff, h3, h17, h18, h9, h10, h19, h20]
  refine loadX_agg Shp.eq mem1 rfl rfl ?_
  simp (disch := omega) only [push_cast, Nat.reduceEqDiff, h3, h17, h18, h9, h10, h19, h20]
  refine loadX_agg Shp.eq mem0 rfl rfl ?_
  simp (disch := omega) only [push_cast, Nat.reduceEqDiff, h3, h17, h18, h9, h10, h19, h20]
  refine qcallV en_10 (qcallX_is (.bool (sameV x1 y1)) (fun w' hw' => by have := same_all _ w' w'.heap.size x1 y1 a1 a2 c1 c2 (Nat.le_refl _) (Nat.le_refl _) (kT1 _ _ _ _ _ w' hw') (kT2 _ _ _ _ _ w' hw'); rw [hce, hcy] at this; exact this) ?_)
  simp (disch := omega) only [push_cast, Nat.reduceEqDiff, h3, h17, h18, h9, h10, h19, h20]
  refine loadX_agg Shp.eq mem1 rfl rfl ?_
  simp (disch := omega) only [push_cast, Nat.reduceEqDiff, h3, h17, h18, h9, h10, h19, h20]
  refine loadX_agg Shp.eq mem0 rfl rfl ?_
  simp (disch := omega) only [push_cast, Nat.reduceEqDiff, h3, h17, h18, h9, h10, h19, h20]
  refine qcallV en_11 (qcallX_is (.bool (sameV x1 y1)) (fun w' hw' => by have := sameR_all _ w' w'.heap.size x1 y1 a1 a2 c1 c2 (Nat.le_refl _) (Nat.le_refl _) (kT1 _ _ _ _ _ w' hw') (kT2 _ _ _ _ _ w' hw'); rw [hce, hcy] at this; exact this) ?_)
  simp (disch := omega) only [push_cast, Nat.reduceEqDiff, h3, h17, h18, h9, h10, h19, h20, beq_self_eq_true]
  refine guardX_bt rfl (fun _ => ?_) (fun h => absurd h (by decide))
  simp (disch := omega) only [push_cast, Nat.reduceEqDiff, h3, h17, h18, h9, h10, h19, h20, beq_self_eq_true]
  exact finIs (hL2 _ _ _ _ _ _ hM12) rfl
end Go.Proofs.YtjkogfiidhjpcaaDoor
