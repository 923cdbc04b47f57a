/- YtjkogfiidhjpcaaDoor: walks, part 91: Compare. -/
import Derived.Test.YtjkogfiidhjpcaaDoorW88
namespace Go.Proofs.YtjkogfiidhjpcaaDoor
open Go Go.K
set_option maxRecDepth 100000
set_option linter.unusedVariables false
set_option linter.unusedSimpArgs false
set_option maxHeartbeats 40000000
def cmpC (f : Fld) (x y : Vl) : Int := if mayD f = true then (if (goodD f x && goodD f y) = true then 0 else 7) else 5
def cmpO (f : Fld) (x y : Vl) : Int := if cmpC f x y = 0 then ordD 64 f x y else 0
theorem compare_rung (w : World) (hs : SaysAt w) (lo : Nat) (hTb : TabsAt w) (hlo : lo ≤ w.heap.size) (f : Fld) (x y : Vl) (a xa ya : Option Addr) (c xc yc : Nat) (hA : FlAt w lo f a c) (hfn : f.nm.length ≤ 9223372036854775807) (hX : VAt w lo x xa xc) (hY : VAt w lo y ya yc) :
    Calls Tryd.prog 6 #[.agg (f.cells a c).toArray, .agg (x.cells xa xc).toArray, .agg (y.cells ya yc).toArray] w (Rets w (Is (.tuple #[i64 (cmpO f x y), i64 (cmpC f x y)]))) := by
  refine enterT (args := [.agg (f.cells a c).toArray, .agg (x.cells xa xc).toArray, .agg (y.cells ya yc).toArray]) Tryd.func6 rfl Tryd.ntmps6 (congrArg Array.toList Tryd.results6) (by kernel_rfl) (by simp) (Sy.refl w) ?_
  simp (disch := omega) only [push_cast, Nat.reduceEqDiff, Fld.cells, Vl.cells]
  refine newI (fun b3 hb3 hn3 => ?_)
  simp (disch := omega) only [push_cast, Nat.reduceEqDiff, Fld.cells, Vl.cells]
  refine newI (fun b4 hb4 hn4 => ?_)
  simp (disch := omega) only [push_cast, Nat.reduceEqDiff, Fld.cells, Vl.cells]
  refine newI (fun b5 hb5 hn5 => ?_)
  simp (disch := omega) only [push_cast, Nat.reduceEqDiff, Fld.cells, Vl.cells]
  rw [V_block]
  simp (disch := omega) only [push_cast, Nat.reduceEqDiff, Fld.cells, Vl.cells]
  have hL : ∀ x y z : Obj, ∀ p ∈ [(b5, x), (b4, y), (b3, z)], w.heap.size ≤ p.1 := fun x y z p hp => by
    simp only [List.mem_cons, List.mem_nil_iff, or_false] at hp
    rcases hp with rfl | rfl | rfl
    · exact hb5
    · exact hb4
    · exact hb3
  refine loadX_agg Shp.eq mem2 rfl rfl ?_
  simp (disch := omega) only [push_cast, Nat.reduceEqDiff]
  refine callV en_24 (callX_is (fun w' hw' => may_walk w' (hs.mono hw' (hL _ _ _)) lo (Nat.le_trans hlo hw'.size) f a c (hA.sy hlo hw' (hL _ _ _)) hfn) ?_)
  simp (disch := omega) only [push_cast, Nat.reduceEqDiff]
  rw [V_cond]
  simp (disch := omega) only [push_cast, Nat.reduceEqDiff]
  refine condX_b (fun hm => ?_) (fun hm => ?_)
  · simp (disch := omega) only [push_cast, Nat.reduceEqDiff]
    rw [Bool.not_eq_true'] at hm
    have hc : cmpC f x y = 5 := by unfold cmpC; rw [hm]; rfl
    exact finIs (hL _ _ _) (by unfold cmpO; rw [hc]; rfl)
  rw [Bool.not_eq_false'] at hm
  simp (disch := omega) only [push_cast, Nat.reduceEqDiff]
  refine loadX_agg Shp.eq mem2 rfl rfl ?_
  simp (disch := omega) only [push_cast, Nat.reduceEqDiff]
  refine loadX_agg Shp.eq mem1 rfl rfl ?_
  simp (disch := omega) only [push_cast, Nat.reduceEqDiff]
  refine callV en_25 (callX_is (fun w' hw' => good_walk w' lo (hTb.mono hw' (hL _ _ _)) (Nat.le_trans hlo hw'.size) f x a xa c xc (mayD_okD hm) (hA.sy hlo hw' (hL _ _ _)) (hX.sy hlo hw' (hL _ _ _))) ?_)
  simp (disch := omega) only [push_cast, Nat.reduceEqDiff]
  refine guardX_bf rfl (fun hg => ?_) (fun hg => ?_)
  rotate_left
  · simp (disch := omega) only [push_cast, Nat.reduceEqDiff]
    rw [V_cond]
    simp (disch := omega) only [push_cast, Nat.reduceEqDiff]
    rw [Bool.not_eq_true'] at hg
    have hc : cmpC f x y = 7 := by unfold cmpC; rw [hm, hg]; rfl
    exact finIs (hL _ _ _) (by unfold cmpO; rw [hc]; rfl)
  rw [Bool.not_eq_false'] at hg
  simp (disch := omega) only [push_cast, Nat.reduceEqDiff]
  refine loadX_agg Shp.eq mem2 rfl rfl ?_
  simp (disch := omega) only [push_cast, Nat.reduceEqDiff]
  refine loadX_agg Shp.eq mem0 rfl rfl ?_
  simp (disch := omega) only [push_cast, Nat.reduceEqDiff]
  refine callV en_25 (callX_is (fun w' hw' => good_walk w' lo (hTb.mono hw' (hL _ _ _)) (Nat.le_trans hlo hw'.size) f y a ya c yc (mayD_okD hm) (hA.sy hlo hw' (hL _ _ _)) (hY.sy hlo hw' (hL _ _ _))) ?_)
  simp (disch := omega) only [push_cast, Nat.reduceEqDiff]
  rw [V_cond]
  simp (disch := omega) only [push_cast, Nat.reduceEqDiff]
  refine condX_b (fun hg2 => ?_) (fun hg2 => ?_)
  · simp (disch := omega) only [push_cast, Nat.reduceEqDiff]
    rw [Bool.not_eq_true'] at hg2
    have hc : cmpC f x y = 7 := by unfold cmpC; rw [hm, hg, hg2]; rfl
    exact finIs (hL _ _ _) (by unfold cmpO; rw [hc]; rfl)
  rw [Bool.not_eq_false'] at hg2
  have hc : cmpC f x y = 0 := by unfold cmpC; rw [hm, hg, hg2]; rfl
  have hgx : fitD 64 f x = true := (Bool.and_eq_true_iff.1 hg).1
  have hgy : fitD 64 f y = true := (Bool.and_eq_true_iff.1 hg2).1
  simp (disch := omega) only [push_cast, Nat.reduceEqDiff]
  refine loadX_agg Shp.eq mem2 rfl rfl ?_
  simp (disch := omega) only [push_cast, Nat.reduceEqDiff]
  refine loadX_agg Shp.eq mem1 rfl rfl ?_
  simp (disch := omega) only [push_cast, Nat.reduceEqDiff]
  refine loadX_agg Shp.eq mem0 rfl rfl ?_
  simp (disch := omega) only [push_cast, Nat.reduceEqDiff]
  refine callV en_26 (callX_is (fun w' hw' => order_all 64 w' lo f x y a xa ya c xc yc (Nat.le_trans hlo hw'.size) (mayD_okD hm) hgx hgy (hA.sy hlo hw' (hL _ _ _)) (hX.sy hlo hw' (hL _ _ _)) (hY.sy hlo hw' (hL _ _ _))) ?_)
  simp (disch := omega) only [push_cast, Nat.reduceEqDiff]
  exact finIs (hL _ _ _) (by unfold cmpO; rw [hc]; rfl)
end Go.Proofs.YtjkogfiidhjpcaaDoor
