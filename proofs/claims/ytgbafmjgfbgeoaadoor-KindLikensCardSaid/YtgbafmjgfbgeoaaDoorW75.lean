/- YtgbafmjgfbgeoaaDoor: walks, part 75: the row KindLikens. -/
import Derived.Test.YtgbafmjgfbgeoaaDoorW14
import Derived.Test.YtgbafmjgfbgeoaaDoorW60
import Derived.Test.YtgbafmjgfbgeoaaDoorW68
import Derived.Test.YtgbafmjgfbgeoaaDoorW70
import Derived.Test.YtgbafmjgfbgeoaaDoorW73
import Derived.Test.YtgbafmjgfbgeoaaDoorW74
namespace Go.Proofs.YtgbafmjgfbgeoaaDoor
open Go Go.K
set_option maxRecDepth 100000
set_option linter.unusedVariables false
set_option linter.unusedSimpArgs false
set_option maxHeartbeats 1000000
/-- A field that lies in memory below lo. -/
structure FdAt (w : World) (lo : Nat) (f : Fld) (a : Option Addr) (c : Nat) : Prop extends TyAt w lo f a c where
  hn : f.nm.length ≤ 9223372036854775807
theorem FdAt.sy {w w' : World} {lo : Nat} {f : Fld} {a : Option Addr} {c : Nat} {M : Own} (h : FdAt w lo f a c) (hlo : lo ≤ w.heap.size) (hs : Sy w M w') (hM : ∀ p ∈ M, w.heap.size ≤ p.1) : FdAt w' lo f a c :=
  ⟨h.toTyAt.sy hlo hs hM, h.hn⟩
abbrev fdC (f : Fld) (a : Option Addr) (c : Nat) : Array Value := #[str f.nm, .bool f.nl, i64 f.k, i64 f.wd, i64 f.id, i64 f.ix, .slice a f.sub.length c]
structure LkI (w0 : World) (f g : Fld) (a a' : Option Addr) (c c' b48 : Nat) (L0 : Own) (i : Nat) (wb : World) (e : Env) (ds : List Deferred) (L : Own) : Prop where
  hw : wb = w0
  hds : ds = []
  o : L = (b48, Obj.cells (f.cells a c ++ g.cells a' c').toArray 38 (0, 0)) :: L0
  il : i ≤ 2
  h48 : e 48 = .slice (some ⟨b48, 0, none⟩) 2 2
  h49 : e 49 = i64 2
  h50 : e 50 = i64 i
theorem PartS.base {w w' : World} {lo : Nat} {v : Value} {M : Own} {l : List Fld} (h : PartS w lo v M l) (hk : ∀ k, k < lo → w.heap[k]? = w'.heap[k]?) : PartS w' lo v M l := by
  obtain ⟨a, c, h1, h2, h3⟩ := h
  exact ⟨a, c, h1, h2, fun w2 q1 q2 q3 => h3 w2 (fun k hk' => by rw [q1 k hk', hk k hk']) q2 q3⟩
theorem kindLikens_walk (w : World) (hs : SaysAt w) (lo : Nat) (hlo : lo ≤ w.heap.size) (f g : Fld) (a a' : Option Addr) (c c' : Nat) (hf : FdAt w lo f a c) (hg : FdAt w lo g a' c') :
    Calls Tryd.prog 6 #[fldV f a c, fldV g a' c'] w (Rets w (Is (.bool true))) := by
  refine enterT (args := [fldV f a c, fldV g a' c']) Tryd.func6 rfl Tryd.ntmps6 (congrArg Array.toList Tryd.results6) (by kernel_rfl) (by simp) (Sy.refl w) ?_
  simp (disch := omega) only [push_cast, Nat.reduceEqDiff]
  refine newI (fun b2 hb2 hn2 => ?_)
  simp (disch := omega) only [push_cast, Nat.reduceEqDiff]
  refine newI (fun b3 hb3 hn3 => ?_)
  have hL : ∀ x y : Obj, ∀ p ∈ [(b3, x), (b2, y)], w.heap.size ≤ p.1 := fun x y p hp => by
    simp only [List.mem_cons, List.mem_nil_iff, or_false] at hp
    rcases hp with rfl | rfl <;> assumption
  simp (disch := omega) only [push_cast, Nat.reduceEqDiff]
  refine callV en_7 (callX_is (fun w' hw' => awake_walk w' (hs.mono hw' (hL _ _))) ?_)
  simp (disch := omega) only [push_cast, Nat.reduceEqDiff]
  rw [V_cond]
  simp (disch := omega) only [push_cast, Nat.reduceEqDiff]
  refine condX_b (fun hm => by cases hm) (fun _ => ?_)
  simp (disch := omega) only [push_cast, Nat.reduceEqDiff]
  have kf := fun w' (L' : Own) (hL' : ∀ p ∈ L', w.heap.size ≤ p.1) hw' => hf.sy hlo (w' := w') (M := L') hw' hL'
  have kg := fun w' (L' : Own) (hL' : ∀ p ∈ L', w.heap.size ≤ p.1) hw' => hg.sy hlo (w' := w') (M := L') hw' hL'
  refine drawQT (by kernel_rfl) (by kernel_rfl) mixed (by kernel_rfl) ?_
  simp (disch := omega) only [push_cast, Nat.reduceEqDiff]
  refine loadX_agg Shp.eq mem1 rfl rfl ?_
  simp (disch := omega) only [push_cast, Nat.reduceEqDiff]
  refine loadX_agg Shp.eq mem0 rfl rfl ?_
  simp (disch := omega) only [push_cast, Nat.reduceEqDiff]
  refine qcallV en_19 (qcallX_is _ (fun w' hw' => alikeFields_walk w' (hs.mono hw' (hL _ _)) lo (Nat.le_trans hlo hw'.size) f g a a' c c' (kf w' _ (hL _ _) hw').hr (kg w' _ (hL _ _) hw').hr hf.hc hg.hc hf.hc2 hg.hc2 hf.hn hg.hn) ?_)
  simp (disch := omega) only [push_cast, Nat.reduceEqDiff]
  refine loadX_agg Shp.eq mem1 rfl rfl ?_
  simp (disch := omega) only [push_cast, Nat.reduceEqDiff]
  refine loadX_agg Shp.eq mem0 rfl rfl ?_
  simp (disch := omega) only [push_cast, Nat.reduceEqDiff]
  refine qcallV en_20 (qcallX_is _ (fun w' hw' => alikeFieldsR_walk w' lo (Nat.le_trans hlo hw'.size) f g a a' c c' (kf w' _ (hL _ _) hw').hr (kg w' _ (hL _ _) hw').hr hf.hc hg.hc hf.hc2 hg.hc2 hf.hn hg.hn) ?_)
  simp (disch := omega) only [push_cast, Nat.reduceEqDiff, bne_self_eq_false]
  refine loadX_agg Shp.eq mem1 rfl rfl ?_
  simp (disch := omega) only [push_cast, Nat.reduceEqDiff]
  refine loadX_agg Shp.eq mem0 rfl rfl ?_
  simp (disch := omega) only [push_cast, Nat.reduceEqDiff]
  refine qcallV en_21 (qcallX_is _ (fun w' hw' => alikeT_walk w' (hs.mono hw' (hL _ _)) lo (Nat.le_trans hlo hw'.size) f g a a' c c' (kf w' _ (hL _ _) hw').toTyAt (kg w' _ (hL _ _) hw').toTyAt) ?_)
  simp (disch := omega) only [push_cast, Nat.reduceEqDiff]
  refine loadX_agg Shp.eq mem1 rfl rfl ?_
  simp (disch := omega) only [push_cast, Nat.reduceEqDiff]
  refine loadX_agg Shp.eq mem0 rfl rfl ?_
  simp (disch := omega) only [push_cast, Nat.reduceEqDiff]
  refine qcallV en_22 (qcallX_is _ (fun w' hw' => alikeTR_walk w' lo (Nat.le_trans hlo hw'.size) f g a a' c c' (kf w' _ (hL _ _) hw').toTyAt (kg w' _ (hL _ _) hw').toTyAt) ?_)
  simp (disch := omega) only [push_cast, Nat.reduceEqDiff, bne_self_eq_false]
  refine loadX_agg Shp.eq mem0 rfl rfl ?_
  simp (disch := omega) only [push_cast, Nat.reduceEqDiff]
  refine loadX_agg Shp.eq mem0 rfl rfl ?_
  simp (disch := omega) only [push_cast, Nat.reduceEqDiff]
  refine qcallV en_19 (qcallX_is _ (fun w' hw' => alikeFields_walk w' (hs.mono hw' (hL _ _)) lo (Nat.le_trans hlo hw'.size) g g a' a' c' c' (kg w' _ (hL _ _) hw').hr (kg w' _ (hL _ _) hw').hr hg.hc hg.hc hg.hc2 hg.hc2 hg.hn hg.hn) ?_)
  simp (disch := omega) only [push_cast, Nat.reduceEqDiff]
  refine loadX_agg Shp.eq mem0 rfl rfl ?_
  simp (disch := omega) only [push_cast, Nat.reduceEqDiff]
  refine loadX_agg Shp.eq mem0 rfl rfl ?_
  simp (disch := omega) only [push_cast, Nat.reduceEqDiff]
  refine qcallV en_20 (qcallX_is _ (fun w' hw' => alikeFieldsR_walk w' lo (Nat.le_trans hlo hw'.size) g g a' a' c' c' (kg w' _ (hL _ _) hw').hr (kg w' _ (hL _ _) hw').hr hg.hc hg.hc hg.hc2 hg.hc2 hg.hn hg.hn) ?_)
  simp (disch := omega) only [push_cast, Nat.reduceEqDiff, bne_self_eq_false]
  refine forget (fun e => e 2 = .pointer (some ⟨b2, 0, none⟩) ∧ e 3 = .pointer (some ⟨b3, 0, none⟩) ∧ e 45 = .bool false) ⟨rfl, rfl, rfl⟩ (fun e he => ?_)
  have h2 := he.1
  have h3 := he.2.1
  have h45 := he.2.2
  rw [V_cond]
  simp (disch := omega) only [push_cast, Nat.reduceEqDiff, h2, h3, h45]
  refine loadX_agg Shp.eq mem1 rfl rfl ?_
  simp (disch := omega) only [push_cast, Nat.reduceEqDiff, h2, h3]
  refine loadX_agg Shp.eq mem0 rfl rfl ?_
  simp (disch := omega) only [push_cast, Nat.reduceEqDiff, h2, h3]
  refine bs_22_2 (newI fun b48 hb48 hn48 => ?_)
  simp (disch := omega) only [push_cast, Nat.reduceEqDiff, h2, h3]
  rw [V_block]
  simp (disch := omega) only [push_cast, Nat.reduceEqDiff]
  have hL0 : ∀ p ∈ [(b48, Obj.cells (f.cells a c ++ g.cells a' c').toArray 38 (0, 0)), (b3, Obj.cells (fdC g a' c') 38 (0, 0)), (b2, Obj.cells (fdC f a c) 38 (0, 0))], w.heap.size ≤ p.1 := fun p hp => by
    simp only [List.mem_cons, List.mem_nil_iff, or_false] at hp
    rcases hp with rfl | rfl | rfl <;> assumption
  refine loopW (G := Nat) (LkI w f g a a' c c' b48 [(b3, Obj.cells (fdC g a' c') 38 (0, 0)), (b2, Obj.cells (fdC f a c) 38 (0, 0))]) (fun i => 2 - i) 0 _ (fun w hw => hw) (by kernel_rfl) ⟨rfl, rfl, rfl, by omega, rfl, rfl, rfl⟩ ?_
  rintro i wb e ds L ⟨rfl, rfl, rfl, hil, h48, h49, h50⟩
  simp (disch := omega) only [push_cast, Nat.reduceEqDiff, h48, h49, h50]
  rw [V_cond]
  simp (disch := omega) only [push_cast, Nat.reduceEqDiff, h48, h49, h50]
  refine condX_d (fun hlt => ?_) (fun hge => ?_)
  rotate_left
  · simp (disch := omega) only [push_cast, Nat.reduceEqDiff, h48, h49, h50]
    exact finIs hL0 rfl
  obtain ⟨x, xa, xc, hx, htk⟩ : ∃ x xa xc, FdAt wb lo x xa xc ∧ ((f.cells a c ++ g.cells a' c').drop (i * 7)).take 7 = x.cells xa xc := by
    rcases (by omega : i = 0 ∨ i = 1) with rfl | rfl
    · exact ⟨f, a, c, hf, rfl⟩
    · exact ⟨g, a', c', hg, rfl⟩
  simp (disch := omega) only [push_cast, Nat.reduceEqDiff, h48, h49, h50]
  rw [V_block]
  simp (disch := omega) only [push_cast, Nat.reduceEqDiff, h48, h49, h50]
  refine loadX_agg Shp.eq mem0 (by simpa using htk) rfl ?_
  simp (disch := omega) only [push_cast, Nat.reduceEqDiff, h48, h49, h50, Fld.cells]
  refine newI (fun b6 hb6 hn6 => ?_)
  simp (disch := omega) only [push_cast, Nat.reduceEqDiff, h48, h49, h50]
  refine storeX 0 rfl Siz.eq rfl rfl (by simp [Value.oneCell']) (by simp) ?_
  simp (disch := omega) only [push_cast, Nat.reduceEqDiff, h48, h49, h50]
  have hL6 : ∀ p ∈ ((b6, Obj.cells (fdC x xa xc) 38 (0, 0)) :: [(b48, Obj.cells (f.cells a c ++ g.cells a' c').toArray 38 (0, 0)), (b3, Obj.cells (fdC g a' c') 38 (0, 0)), (b2, Obj.cells (fdC f a c) 38 (0, 0))]), wb.heap.size ≤ p.1 := fun p hp => by
    rcases List.mem_cons.1 hp with rfl | hp
    · exact hb6
    · exact hL0 p hp
  have kx := fun w' (L' : Own) (hL' : ∀ p ∈ L', wb.heap.size ≤ p.1) hw' => (hx.sy hlo (w' := w') (M := L') hw' hL').toTyAt
  refine loadX_agg Shp.eq mem0 rfl rfl ?_
  simp (disch := omega) only [push_cast, Nat.reduceEqDiff, h48, h49, h50]
  refine callV en_23 (callX_is (fun w' hw' => shape_walk w' (hs.mono hw' hL6) lo (Nat.le_trans hlo hw'.size) x xa xc (kx w' _ hL6 hw')) ?_)
  simp (disch := omega) only [push_cast, Nat.reduceEqDiff, h48, h49, h50]
  refine loadX_agg Shp.eq mem0 rfl rfl ?_
  simp (disch := omega) only [push_cast, Nat.reduceEqDiff, h48, h49, h50]
  refine callV en_24 (callX_is (fun w' hw' => shapeR_walk w' lo (Nat.le_trans hlo hw'.size) x xa xc (kx w' _ hL6 hw')) ?_)
  rw [shape_law]
  simp (disch := omega) only [push_cast, Nat.reduceEqDiff, h48, h49, h50]
  generalize (shapeP x).1 = s1
  generalize (shapeP x).2.1 = s2
  generalize (shapeP x).2.2 = s3
  refine forgetS (fun e => e 6 = .pointer (some ⟨b6, 0, none⟩) ∧ e 48 = .slice (some ⟨b48, 0, none⟩) 2 2 ∧ e 49 = i64 2 ∧ e 50 = i64 i ∧ e 7 = i64 s1 ∧ e 8 = i64 s2 ∧ e 9 = i64 s3 ∧ e 10 = i64 s1 ∧ e 11 = i64 s2 ∧ e 12 = i64 s3) ⟨rfl, h48, h49, h50, rfl, rfl, rfl, rfl, rfl, rfl⟩ (fun e he => ?_)
  obtain ⟨h6, h48, h49, h50, h7, h8, h9, h10, h11, h12⟩ := he
  refine drawQT (by kernel_rfl) (by kernel_rfl) mixed (by kernel_rfl) ?_
  simp (disch := omega) only [push_cast, Nat.reduceEqDiff, h6, h7, h8, h9, h10, h11, h12, ne_eq, not_true_eq_false, decide_false]
  refine loadX_agg Shp.eq mem0 rfl rfl ?_
  simp (disch := omega) only [push_cast, Nat.reduceEqDiff, h6]
  refine qcallV en_17 (qcallX_is _ (fun w' hw' => depth_walk w' (hs.mono hw' hL6) lo (Nat.le_trans hlo hw'.size) x xa xc (kx w' _ hL6 hw')) ?_)
  simp (disch := omega) only [push_cast, Nat.reduceEqDiff, h6]
  refine loadX_agg Shp.eq mem0 rfl rfl ?_
  simp (disch := omega) only [push_cast, Nat.reduceEqDiff, h6]
  refine qcallV en_25 (qcallX_is _ (fun w' hw' => depthR_walk w' lo (Nat.le_trans hlo hw'.size) x xa xc (kx w' _ hL6 hw')) ?_)
  rw [depth_law]
  simp (disch := omega) only [push_cast, Nat.reduceEqDiff, h6, ne_eq, not_true_eq_false, decide_false]
  refine loadX_agg Shp.eq mem0 rfl rfl ?_
  simp (disch := omega) only [push_cast, Nat.reduceEqDiff, h6]
  refine qcallV en_26 (qcallX_is _ (fun w' hw' => width_walk w' (hs.mono hw' hL6) lo (Nat.le_trans hlo hw'.size) x xa xc (kx w' _ hL6 hw')) ?_)
  simp (disch := omega) only [push_cast, Nat.reduceEqDiff, h6]
  refine loadX_agg Shp.eq mem0 rfl rfl ?_
  simp (disch := omega) only [push_cast, Nat.reduceEqDiff, h6]
  refine qcallV en_27 (qcallX_is _ (fun w' hw' => widthR_walk w' lo (Nat.le_trans hlo hw'.size) x xa xc (kx w' _ hL6 hw')) ?_)
  rw [width_law]
  simp (disch := omega) only [push_cast, Nat.reduceEqDiff, h6, ne_eq, not_true_eq_false, decide_false]
  refine forget (fun e => e 6 = .pointer (some ⟨b6, 0, none⟩) ∧ e 48 = .slice (some ⟨b48, 0, none⟩) 2 2 ∧ e 49 = i64 2 ∧ e 50 = i64 i ∧ e 98 = .bool false) ⟨h6, h48, h49, h50, rfl⟩ (fun e he => ?_)
  obtain ⟨h6, h48, h49, h50, h98⟩ := he
  rw [V_cond]
  simp (disch := omega) only [push_cast, Nat.reduceEqDiff, h6, h48, h49, h50, h98]
  refine freeT [0, 1, 3, 4] [2, 5, 6, 7] ((b6, Obj.cells (fdC x xa xc) 38 (0, 0)) :: [(b48, Obj.cells (f.cells a c ++ g.cells a' c').toArray 38 (0, 0)), (b3, Obj.cells (fdC g a' c') 38 (0, 0)), (b2, Obj.cells (fdC f a c) 38 (0, 0))]) (by kernel_rfl) mixed (by kernel_rfl) (fun w hw => hw) ?_
  simp (disch := omega) only [push_cast, Nat.reduceEqDiff, h6]
  refine loadX_agg Shp.eq mem0 rfl rfl ?_
  simp (disch := omega) only [push_cast, Nat.reduceEqDiff, h6]
  refine loadX_agg Shp.eq mem0 rfl rfl ?_
  simp (disch := omega) only [push_cast, Nat.reduceEqDiff, h6]
  refine callV en_28 (callX_new (fun w' hw' => parts_walk w' (hs.mono hw' hL6) lo (Nat.le_trans hlo hw'.size) x xa xc (kx w' _ hL6 hw')) (fun v M hM hMn hS => ?_))
  obtain ⟨a2, c2, xs2, rfl, z1, z2, z3, z4, z5⟩ := hS
  have zr := copy_rd z3 z4 z5
  have hLM : ∀ p ∈ (M ++ ((b6, Obj.cells (fdC x xa xc) 38 (0, 0)) :: [(b48, Obj.cells (f.cells a c ++ g.cells a' c').toArray 38 (0, 0)), (b3, Obj.cells (fdC g a' c') 38 (0, 0)), (b2, Obj.cells (fdC f a c) 38 (0, 0))])), wb.heap.size ≤ p.1 := fun p hp => by
    rcases List.mem_append.1 hp with hp | hp
    · exact hM p hp
    · exact hL6 p hp
  refine ⟨rfl, fun w hw => hw.drop (List.sublist_append_right M _) (fun p hp => .inr (hLM p hp)), ?_⟩
  simp (disch := omega) only [push_cast, Nat.reduceEqDiff, h6]
  refine callV en_29 (callX_new (S := fun v M2 => PartS wb lo v M2 (partsP x)) (fun w' hw' => (partsR_walk w' lo (Nat.le_trans hlo hw'.size) x xa xc (kx w' _ hLM hw')).mono fun e w2 ⟨v, M2, q1, q2, q3, q4⟩ => ⟨v, M2, q1, q2, q3, q4.base (fun k hk => hw'.rest k (by omega) (fun hm => by
    obtain ⟨p, hp, he⟩ := List.mem_map.1 hm
    have := hLM p hp
    omega))⟩) (fun v M2 hM2 hMn2 hS2 => ?_))
  obtain ⟨a3, c3, rfl, y1, y2⟩ := hS2
  have hLM2 : ∀ p ∈ (M2 ++ (M ++ ((b6, Obj.cells (fdC x xa xc) 38 (0, 0)) :: [(b48, Obj.cells (f.cells a c ++ g.cells a' c').toArray 38 (0, 0)), (b3, Obj.cells (fdC g a' c') 38 (0, 0)), (b2, Obj.cells (fdC f a c) 38 (0, 0))]))), wb.heap.size ≤ p.1 := fun p hp => by
    rcases List.mem_append.1 hp with hp | hp
    · exact hM2 p hp
    · exact hLM p hp
  have hst : ∀ w, Sy wb (M2 ++ (M ++ ((b6, Obj.cells (fdC x xa xc) 38 (0, 0)) :: [(b48, Obj.cells (f.cells a c ++ g.cells a' c').toArray 38 (0, 0)), (b3, Obj.cells (fdC g a' c') 38 (0, 0)), (b2, Obj.cells (fdC f a c) 38 (0, 0))]))) w → Sy wb ((b6, Obj.cells (fdC x xa xc) 38 (0, 0)) :: [(b48, Obj.cells (f.cells a c ++ g.cells a' c').toArray 38 (0, 0)), (b3, Obj.cells (fdC g a' c') 38 (0, 0)), (b2, Obj.cells (fdC f a c) 38 (0, 0))]) w := fun w hw => hw.drop ((List.sublist_append_right M _).trans (List.sublist_append_right M2 _)) (fun p hp => .inr (hLM2 p hp))
  refine ⟨rfl, hst, ?_⟩
  simp (disch := omega) only [push_cast, Nat.reduceEqDiff, h6]
  refine ⟨hst, hst, ?_⟩
  simp (disch := omega) only [push_cast, Nat.reduceEqDiff, h6, ne_eq, not_true_eq_false, decide_false]
  refine guardX_t rfl (fun hp => ?_) (fun hp => ?_)
  · simp (disch := omega) only [push_cast, Nat.reduceEqDiff, h6]
    refine callV en_30 (callX_is (fun w' hw' => eqFields_walk w' w'.heap.size w'.heap.size (partsP x) a2 a3 c2 c3 (Nat.le_refl _) (Nat.le_refl _) (zr w' (Held.of_sy hw' (fun p hp => List.mem_append_right _ (List.mem_append_left _ hp)))) (y2 w' (fun k hk => hw'.rest k (by omega) (fun hm => by
      obtain ⟨p, hp, he⟩ := List.mem_map.1 hm
      have := hLM2 p hp
      omega)) (Nat.le_trans hlo hw'.size) (Held.of_sy hw' (fun p hp => List.mem_append_left _ hp))) (by omega)) ?_)
    simp (disch := omega) only [push_cast, Nat.reduceEqDiff, h6]
    refine forget (fun e => e 48 = .slice (some ⟨b48, 0, none⟩) 2 2 ∧ e 49 = i64 2 ∧ e 50 = i64 i ∧ e 120 = .bool false) ⟨h48, h49, h50, rfl⟩ (fun e he => ?_)
    obtain ⟨h48, h49, h50, h120⟩ := he
    rw [V_cond]
    simp (disch := omega) only [push_cast, Nat.reduceEqDiff, h48, h49, h50, h120]
    exact ⟨i + 1, _, fun w hw => hw.drop (((List.sublist_cons_self _ _).trans (List.sublist_append_right M _)).trans (List.sublist_append_right M2 _)) (fun p hp => .inr (hLM2 p hp)), ⟨rfl, rfl, rfl, by omega, h48, h49, by simp only [upd]; rfl⟩, by omega⟩
  · simp (disch := omega) only [push_cast, Nat.reduceEqDiff, h6]
    refine forget (fun e => e 48 = .slice (some ⟨b48, 0, none⟩) 2 2 ∧ e 49 = i64 2 ∧ e 50 = i64 i ∧ e 120 = .bool false) ⟨h48, h49, h50, rfl⟩ (fun e he => ?_)
    obtain ⟨h48, h49, h50, h120⟩ := he
    rw [V_cond]
    simp (disch := omega) only [push_cast, Nat.reduceEqDiff, h48, h49, h50, h120]
    exact ⟨i + 1, _, fun w hw => hw.drop (((List.sublist_cons_self _ _).trans (List.sublist_append_right M _)).trans (List.sublist_append_right M2 _)) (fun p hp => .inr (hLM2 p hp)), ⟨rfl, rfl, rfl, by omega, h48, h49, by simp only [upd]; rfl⟩, by omega⟩
end Go.Proofs.YtgbafmjgfbgeoaaDoor
