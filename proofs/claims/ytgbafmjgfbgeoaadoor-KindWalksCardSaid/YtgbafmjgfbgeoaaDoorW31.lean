/- YtgbafmjgfbgeoaaDoor: walks, part 31: the reference's: is one field as another one, what lies within it aside? -/
import Derived.Test.YtgbafmjgfbgeoaaDoorW30
import Derived.Test.YtgbafmjgfbgeoaaDoorKo
import Derived.Test.YtgbafmjgfbgeoaaDoorKs
namespace Go.Proofs.YtgbafmjgfbgeoaaDoor
open Go Go.K
set_option maxRecDepth 100000
set_option linter.unusedVariables false
set_option linter.unusedSimpArgs false
set_option maxHeartbeats 4000000
structure SnI (w : World) (b2 b3 : Nat) (f g : Fld) (a a' : Option Addr) (c c' : Nat) (wb : World) (e : Env) (ds : List Deferred) (L : Own) : Prop where
  hw : wb = w
  hds : ds = []
  h2 : e 2 = .pointer (some ⟨b2, 0, none⟩)
  h3 : e 3 = .pointer (some ⟨b3, 0, none⟩)
  o : ∃ b5 b6, e 5 = .pointer (some ⟨b5, 0, none⟩) ∧ e 6 = .pointer (some ⟨b6, 0, none⟩) ∧ w.heap.size ≤ b5 ∧ w.heap.size ≤ b6 ∧ L = [(b6, Obj.cells #[i64 g.k, i64 g.wd, i64 g.id, i64 g.ix, .slice a' g.sub.length c'] 36 (0, 0)), (b5, Obj.cells #[i64 f.k, i64 f.wd, i64 f.id, i64 f.ix, .slice a f.sub.length c] 36 (0, 0)), (b3, Obj.cells #[str g.nm, .bool g.nl, i64 g.k, i64 g.wd, i64 g.id, i64 g.ix, .slice a' g.sub.length c'] 38 (0, 0)), (b2, Obj.cells #[str f.nm, .bool f.nl, i64 f.k, i64 f.wd, i64 f.id, i64 f.ix, .slice a f.sub.length c] 38 (0, 0))]
theorem sameNode_walk (w : World) (f g : Fld) (a a' : Option Addr) (c c' : Nat) :
    Calls Tryd.prog 67 #[.agg #[str f.nm, .bool f.nl, i64 f.k, i64 f.wd, i64 f.id, i64 f.ix, .slice a f.sub.length c], .agg #[str g.nm, .bool g.nl, i64 g.k, i64 g.wd, i64 g.id, i64 g.ix, .slice a' g.sub.length c']] w (Rets w (Is (.bool (sameNd f g)))) := by
  refine enterT (args := [.agg #[str f.nm, .bool f.nl, i64 f.k, i64 f.wd, i64 f.id, i64 f.ix, .slice a f.sub.length c], .agg #[str g.nm, .bool g.nl, i64 g.k, i64 g.wd, i64 g.id, i64 g.ix, .slice a' g.sub.length c']]) Tryd.func67 rfl Tryd.ntmps67 (congrArg Array.toList Tryd.results67) (by kernel_rfl) (by simp) (Sy.refl w) ?_
  simp (disch := omega) only [push_cast, Nat.reduceEqDiff]
  refine newI (fun b2 hb2 hn2 => ?_)
  simp (disch := omega) only [push_cast, Nat.reduceEqDiff]
  refine newI (fun b3 hb3 hn3 => ?_)
  simp (disch := omega) only [push_cast, Nat.reduceEqDiff]
  repeat' (first | ((first | refine guardX_t rfl (fun h => ?_) (fun h => ?_) | refine guardX_f rfl (fun h => ?_) (fun h => ?_) | refine condX_d (fun h => ?_) (fun h => ?_) | (refine guardX_bt rfl (fun h => ?_) (fun h => ?_) <;> (try subst h)) | (refine guardX_bf rfl (fun h => ?_) (fun h => ?_) <;> (try subst h)) | (refine condX_b (fun h => ?_) (fun h => ?_) <;> (try subst h)) | refine ldOne Shp.eq (by (first | exact mem0 | exact mem1 | exact mem2 | exact mem3 | exact mem4 | exact mem5)) rfl ?_ | refine loadX_agg Shp.eq (by (first | exact mem0 | exact mem1 | exact mem2 | exact mem3 | exact mem4 | exact mem5)) rfl rfl ?_ | refine newI (fun b hb hn => ?_) | refine storeX 0 rfl Siz.eq rfl rfl (by simp [Value.oneCell']) (by simp) ?_ | refine storeX 1 rfl Siz.eq rfl rfl (by simp [Value.oneCell']) (by simp) ?_ | refine storeX 2 rfl Siz.eq rfl rfl (by simp [Value.oneCell']) (by simp) ?_ | refine storeX 3 rfl Siz.eq rfl rfl (by simp [Value.oneCell']) (by simp) ?_ | refine storeX 4 rfl Siz.eq rfl rfl (by simp [Value.oneCell']) (by simp) ?_ | refine storeX 5 rfl Siz.eq rfl rfl (by simp [Value.oneCell']) (by simp) ?_ | refine storeX 6 rfl Siz.eq rfl rfl (by simp [Value.oneCell']) (by simp) ?_) <;> simp (disch := omega) only [push_cast, Nat.reduceEqDiff]))
  have hL : ∀ p ∈ [(b3, Obj.cells #[str g.nm, .bool g.nl, i64 g.k, i64 g.wd, i64 g.id, i64 g.ix, .slice a' g.sub.length c'] 38 (0, 0)), (b2, Obj.cells #[str f.nm, .bool f.nl, i64 f.k, i64 f.wd, i64 f.id, i64 f.ix, .slice a f.sub.length c] 38 (0, 0))], w.heap.size ≤ p.1 := by
    intro p hp
    simp only [List.mem_cons, List.mem_nil_iff, or_false] at hp
    rcases hp with rfl | rfl <;> assumption
  refine cutW (SnI w b2 b3 f g a a' c c') ?_ ?_
  · refine freeTs [0, 1, 2, 3] [4, 5, 6, 7] [[4, 5, 6, 7], [5, 4, 6, 7]] [(b3, Obj.cells #[str g.nm, .bool g.nl, i64 g.k, i64 g.wd, i64 g.id, i64 g.ix, .slice a' g.sub.length c'] 38 (0, 0)), (b2, Obj.cells #[str f.nm, .bool f.nl, i64 f.k, i64 f.wd, i64 f.id, i64 f.ix, .slice a f.sub.length c] 38 (0, 0))] (by kernel_rfl) mixed (by kernel_rfl) (by kernel_rfl) (fun h => by cases h) (fun w hw => hw) ?_
    simp (disch := omega) only [push_cast, Nat.reduceEqDiff]
    refine loadX_agg Shp.eq (.tail _ (.head _)) rfl rfl ?_
    simp (disch := omega) only [push_cast, Nat.reduceEqDiff]
    refine loadX_agg Shp.eq (.head _) rfl rfl ?_
    simp (disch := omega) only [push_cast, Nat.reduceEqDiff]
    have st1 : ∀ x : Nat × Obj, w.heap.size ≤ x.1 → Stab w (x :: [(b3, Obj.cells #[str g.nm, .bool g.nl, i64 g.k, i64 g.wd, i64 g.id, i64 g.ix, .slice a' g.sub.length c'] 38 (0, 0)), (b2, Obj.cells #[str f.nm, .bool f.nl, i64 f.k, i64 f.wd, i64 f.id, i64 f.ix, .slice a f.sub.length c] 38 (0, 0))]) [(b3, Obj.cells #[str g.nm, .bool g.nl, i64 g.k, i64 g.wd, i64 g.id, i64 g.ix, .slice a' g.sub.length c'] 38 (0, 0)), (b2, Obj.cells #[str f.nm, .bool f.nl, i64 f.k, i64 f.wd, i64 f.id, i64 f.ix, .slice a f.sub.length c] 38 (0, 0))] := fun x hx => Stab.of (.cons _ (List.Sublist.refl _)) (fun p hp => by
      rcases List.mem_cons.1 hp with rfl | hp
      · exact hx
      · exact hL p hp)
    have st2 : ∀ x y : Nat × Obj, w.heap.size ≤ x.1 → w.heap.size ≤ y.1 → Stab w (x :: y :: [(b3, Obj.cells #[str g.nm, .bool g.nl, i64 g.k, i64 g.wd, i64 g.id, i64 g.ix, .slice a' g.sub.length c'] 38 (0, 0)), (b2, Obj.cells #[str f.nm, .bool f.nl, i64 f.k, i64 f.wd, i64 f.id, i64 f.ix, .slice a f.sub.length c] 38 (0, 0))]) [(b3, Obj.cells #[str g.nm, .bool g.nl, i64 g.k, i64 g.wd, i64 g.id, i64 g.ix, .slice a' g.sub.length c'] 38 (0, 0)), (b2, Obj.cells #[str f.nm, .bool f.nl, i64 f.k, i64 f.wd, i64 f.id, i64 f.ix, .slice a f.sub.length c] 38 (0, 0))] := fun x y hx hy => Stab.of (.cons _ (.cons _ (List.Sublist.refl _))) (fun p hp => by
      rcases List.mem_cons.1 hp with rfl | hp
      · exact hx
      · rcases List.mem_cons.1 hp with rfl | hp
        · exact hy
        · exact hL p hp)
    intro t ht
    simp only [List.mem_cons, List.mem_nil_iff, or_false] at ht
    rcases ht with rfl | rfl
    · simp (disch := omega) only [push_cast, Nat.reduceEqDiff]
      refine newI (fun b5 hb5 hn5 => ?_)
      simp (disch := omega) only [push_cast, Nat.reduceEqDiff]
      refine ⟨st1 _ hb5, newI (fun b6 hb6 hn6 => ?_)⟩
      simp (disch := omega) only [push_cast, Nat.reduceEqDiff]
      refine ⟨st2 _ _ hb6 hb5, storeX 1 rfl Siz.eq rfl rfl (by simp [Value.oneCell']) (by simp) ?_⟩
      simp (disch := omega) only [push_cast, Nat.reduceEqDiff]
      refine ⟨st2 _ _ hb6 hb5, storeX 0 rfl Siz.eq rfl rfl (by simp [Value.oneCell']) (by simp) ?_⟩
      simp (disch := omega) only [push_cast, Nat.reduceEqDiff]
      exact ⟨st2 _ _ hb6 hb5, _, fun w hw => hw, rfl, rfl, rfl, rfl, b5, b6, rfl, rfl, hb5, hb6, rfl⟩
    · simp (disch := omega) only [push_cast, Nat.reduceEqDiff]
      refine newI (fun b6 hb6 hn6 => ?_)
      simp (disch := omega) only [push_cast, Nat.reduceEqDiff]
      refine ⟨st1 _ hb6, newI (fun b5 hb5 hn5 => ?_)⟩
      simp (disch := omega) only [push_cast, Nat.reduceEqDiff]
      refine ⟨st2 _ _ hb5 hb6, storeX 0 rfl Siz.eq rfl rfl (by simp [Value.oneCell']) (by simp) ?_⟩
      simp (disch := omega) only [push_cast, Nat.reduceEqDiff]
      refine ⟨st2 _ _ hb5 hb6, storeX 1 rfl Siz.eq rfl rfl (by simp [Value.oneCell']) (by simp) ?_⟩
      simp (disch := omega) only [push_cast, Nat.reduceEqDiff]
      exact ⟨st2 _ _ hb5 hb6, _, fun w hw => hw.perm (.swap _ _ _), rfl, rfl, rfl, rfl, b5, b6, rfl, rfl, hb5, hb6, rfl⟩
  · rintro wb e ds L ⟨rfl, rfl, e2, e3, ⟨b5, b6, e5, e6, hb5, hb6, rfl⟩⟩
    have hL4 : ∀ p ∈ [(b6, Obj.cells #[i64 g.k, i64 g.wd, i64 g.id, i64 g.ix, .slice a' g.sub.length c'] 36 (0, 0)), (b5, Obj.cells #[i64 f.k, i64 f.wd, i64 f.id, i64 f.ix, .slice a f.sub.length c] 36 (0, 0)), (b3, Obj.cells #[str g.nm, .bool g.nl, i64 g.k, i64 g.wd, i64 g.id, i64 g.ix, .slice a' g.sub.length c'] 38 (0, 0)), (b2, Obj.cells #[str f.nm, .bool f.nl, i64 f.k, i64 f.wd, i64 f.id, i64 f.ix, .slice a f.sub.length c] 38 (0, 0))], wb.heap.size ≤ p.1 := by
      intro p hp
      simp only [List.mem_cons, List.mem_nil_iff, or_false] at hp
      rcases hp with rfl | rfl | rfl | rfl <;> assumption
    simp (disch := omega) only [push_cast, Nat.reduceEqDiff, e2, e3, e5, e6]
    repeat' (first | ((first | refine guardX_t rfl (fun h => ?_) (fun h => ?_) | refine guardX_f rfl (fun h => ?_) (fun h => ?_) | refine condX_d (fun h => ?_) (fun h => ?_) | (refine guardX_bt rfl (fun h => ?_) (fun h => ?_) <;> (try subst h)) | (refine guardX_bf rfl (fun h => ?_) (fun h => ?_) <;> (try subst h)) | (refine condX_b (fun h => ?_) (fun h => ?_) <;> (try subst h)) | refine ldOne Shp.eq (by (first | exact mem0 | exact mem1 | exact mem2 | exact mem3 | exact mem4 | exact mem5)) rfl ?_ | refine loadX_agg Shp.eq (by (first | exact mem0 | exact mem1 | exact mem2 | exact mem3 | exact mem4 | exact mem5)) rfl rfl ?_ | refine newI (fun b hb hn => ?_) | refine storeX 0 rfl Siz.eq rfl rfl (by simp [Value.oneCell']) (by simp) ?_ | refine storeX 1 rfl Siz.eq rfl rfl (by simp [Value.oneCell']) (by simp) ?_ | refine storeX 2 rfl Siz.eq rfl rfl (by simp [Value.oneCell']) (by simp) ?_ | refine storeX 3 rfl Siz.eq rfl rfl (by simp [Value.oneCell']) (by simp) ?_ | refine storeX 4 rfl Siz.eq rfl rfl (by simp [Value.oneCell']) (by simp) ?_ | refine storeX 5 rfl Siz.eq rfl rfl (by simp [Value.oneCell']) (by simp) ?_ | refine storeX 6 rfl Siz.eq rfl rfl (by simp [Value.oneCell']) (by simp) ?_) <;> simp (disch := omega) only [push_cast, Nat.reduceEqDiff, e2, e3, e5, e6]) | (first | rw [V_cond] | rw [V_block]) <;> (try simp (disch := omega) only [push_cast, Nat.reduceEqDiff, e2, e3, e5, e6]))
    all_goals
      refine finIs hL4 ?_
      unfold sameNd
      simp_all <;> omega
end Go.Proofs.YtgbafmjgfbgeoaaDoor
