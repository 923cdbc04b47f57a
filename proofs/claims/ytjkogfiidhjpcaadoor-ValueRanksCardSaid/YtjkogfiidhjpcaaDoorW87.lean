/- YtjkogfiidhjpcaaDoor: walks, part 87: does a value fit a field, and why not. -/
import Derived.Test.YtjkogfiidhjpcaaDoorW86
namespace Go.Proofs.YtjkogfiidhjpcaaDoor
open Go Go.K
set_option maxRecDepth 100000
set_option linter.unusedVariables false
set_option linter.unusedSimpArgs false
set_option maxHeartbeats 2000000
def mayD (f : Fld) : Bool := decide ((checkP [f] []).1 = 0)
def goodD (f : Fld) (v : Vl) : Bool := fitD 64 f v && decide ((wV v : Int) ≤ 4194304)
def fitsP (f : Fld) (v : Vl) : Int := if mayD f = true then (if goodD f v = true then 0 else 7) else 5
theorem mayD_okD {f : Fld} (h : mayD f = true) : okD 64 f := may_okD (nt := []) (by unfold mayP; simpa [mayD] using h)
theorem good_walk (w : World) (lo : Nat) (hTb : TabsAt w) (hlo : lo ≤ w.heap.size) (f : Fld) (v : Vl) (a va : Option Addr) (c vc : Nat) (hok : okD 64 f) (hA : FlAt w lo f a c) (hV : VAt w lo v va vc) :
    Calls Tryd.prog 25 #[.agg (f.cells a c).toArray, .agg (v.cells va vc).toArray] w (Rets w (Is (.bool (goodD f v)))) := by
  refine enterT (args := [.agg (f.cells a c).toArray, .agg (v.cells va vc).toArray]) Tryd.func25 rfl Tryd.ntmps25 (congrArg Array.toList Tryd.results25) (by kernel_rfl) (by simp) (Sy.refl w) ?_
  simp (disch := omega) only [push_cast, Nat.reduceEqDiff, Fld.cells, Vl.cells]
  refine newI (fun b2 hb2 hn2 => ?_)
  simp (disch := omega) only [push_cast, Nat.reduceEqDiff, Fld.cells, Vl.cells]
  refine newI (fun b3 hb3 hn3 => ?_)
  simp (disch := omega) only [push_cast, Nat.reduceEqDiff, Fld.cells, Vl.cells]
  refine newI (fun b5 hb5 hn5 => ?_)
  simp (disch := omega) only [push_cast, Nat.reduceEqDiff, Fld.cells, Vl.cells]
  refine loadX_agg Shp.eq mem2 rfl rfl ?_
  simp (disch := omega) only [push_cast, Nat.reduceEqDiff]
  refine loadX_agg Shp.eq mem1 rfl rfl ?_
  simp (disch := omega) only [push_cast, Nat.reduceEqDiff]
  have hL : ∀ x y z : Obj, ∀ p ∈ [(b5, x), (b3, y), (b2, z)], w.heap.size ≤ p.1 := fun x y z p hp => by
    simp only [List.mem_cons, List.mem_nil_iff, or_false] at hp
    rcases hp with rfl | rfl | rfl
    · exact hb5
    · exact hb3
    · exact hb2
  refine callV en_46 (callX_base (fun w' hw' => fits_all 64 w w' lo b5 4194304 [_, _] f v a va c vc hTb hlo hok hA hV (by decide) (by decide) (hL _ _ _) hw') ?_)
  rintro e' w' ⟨rfl, z', hz', hs⟩
  refine ⟨_, _, rfl, hs, ?_⟩
  simp (disch := omega) only [push_cast, Nat.reduceEqDiff]
  exact finIs (hL _ _ _) rfl
theorem may_walk (w : World) (hs : SaysAt w) (lo : Nat) (hlo : lo ≤ w.heap.size) (f : Fld) (a : Option Addr) (c : Nat) (hA : FlAt w lo f a c) (hfn : f.nm.length ≤ 9223372036854775807) :
    Calls Tryd.prog 24 #[.agg (f.cells a c).toArray] w (Rets w (Is (.bool (mayD f)))) := by
  refine enterT (args := [.agg (f.cells a c).toArray]) Tryd.func24 rfl Tryd.ntmps24 (congrArg Array.toList Tryd.results24) (by kernel_rfl) (by simp) (Sy.refl w) ?_
  simp (disch := omega) only [push_cast, Nat.reduceEqDiff, Fld.cells]
  refine newI (fun b1 hb1 hn1 => ?_)
  simp (disch := omega) only [push_cast, Nat.reduceEqDiff, Fld.cells]
  refine loadX_agg Shp.eq mem0 rfl rfl ?_
  simp (disch := omega) only [push_cast, Nat.reduceEqDiff]
  have hL : ∀ x : Obj, ∀ p ∈ [(b1, x)], w.heap.size ≤ p.1 := fun x p hp => by rw [List.mem_singleton.1 hp]; exact hb1
  refine callV en_45 (callX_new (fun w' hw' => checkField_walk w' (hs.mono hw' (hL _)) lo (Nat.le_trans hlo hw'.size) f a c (hA.sy hlo hw' (hL _)).hr hA.hc hA.hc2 hfn) (fun v M hM _ hv => ?_))
  obtain ⟨pa, pc, rfl, -⟩ := hv
  simp (disch := omega) only [push_cast, Nat.reduceEqDiff]
  refine finIs (fun p hp => ?_) rfl
  rcases List.mem_append.1 hp with hp | hp
  · exact hM p hp
  · exact hL _ p hp
theorem fits_rung (w : World) (hs : SaysAt w) (lo : Nat) (hTb : TabsAt w) (hlo : lo ≤ w.heap.size) (f : Fld) (v : Vl) (a va : Option Addr) (c vc : Nat) (hA : FlAt w lo f a c) (hfn : f.nm.length ≤ 9223372036854775807) (hV : VAt w lo v va vc) :
    Calls Tryd.prog 16 #[.agg (f.cells a c).toArray, .agg (v.cells va vc).toArray] w (Rets w (Is (i64 (fitsP f v)))) := by
  refine enterT (args := [.agg (f.cells a c).toArray, .agg (v.cells va vc).toArray]) Tryd.func16 rfl Tryd.ntmps16 (congrArg Array.toList Tryd.results16) (by kernel_rfl) (by simp) (Sy.refl w) ?_
  simp (disch := omega) only [push_cast, Nat.reduceEqDiff, Fld.cells, Vl.cells]
  refine newI (fun b2 hb2 hn2 => ?_)
  simp (disch := omega) only [push_cast, Nat.reduceEqDiff, Fld.cells, Vl.cells]
  refine newI (fun b3 hb3 hn3 => ?_)
  simp (disch := omega) only [push_cast, Nat.reduceEqDiff, Fld.cells, Vl.cells]
  rw [V_block]
  simp (disch := omega) only [push_cast, Nat.reduceEqDiff, Fld.cells, Vl.cells]
  have hL : ∀ x y : Obj, ∀ p ∈ [(b3, x), (b2, y)], w.heap.size ≤ p.1 := fun x y p hp => by
    simp only [List.mem_cons, List.mem_nil_iff, or_false] at hp
    rcases hp with rfl | rfl
    · exact hb3
    · exact hb2
  refine loadX_agg Shp.eq mem1 rfl rfl ?_
  simp (disch := omega) only [push_cast, Nat.reduceEqDiff]
  refine callV en_24 (callX_is (fun w' hw' => may_walk w' (hs.mono hw' (hL _ _)) lo (Nat.le_trans hlo hw'.size) f a c (hA.sy hlo hw' (hL _ _)) hfn) ?_)
  simp (disch := omega) only [push_cast, Nat.reduceEqDiff]
  rw [V_cond]
  simp (disch := omega) only [push_cast, Nat.reduceEqDiff]
  refine condX_b (fun hm => ?_) (fun hm => ?_)
  · simp (disch := omega) only [push_cast, Nat.reduceEqDiff]
    exact finIs (hL _ _) (congrArg i64 (by rw [Bool.not_eq_true'] at hm; unfold fitsP; rw [hm]; rfl))
  rw [Bool.not_eq_false'] at hm
  simp (disch := omega) only [push_cast, Nat.reduceEqDiff]
  refine loadX_agg Shp.eq mem1 rfl rfl ?_
  simp (disch := omega) only [push_cast, Nat.reduceEqDiff]
  refine loadX_agg Shp.eq mem0 rfl rfl ?_
  simp (disch := omega) only [push_cast, Nat.reduceEqDiff]
  refine callV en_25 (callX_is (fun w' hw' => good_walk w' lo (hTb.mono hw' (hL _ _)) (Nat.le_trans hlo hw'.size) f v a va c vc (mayD_okD hm) (hA.sy hlo hw' (hL _ _)) (hV.sy hlo hw' (hL _ _))) ?_)
  simp (disch := omega) only [push_cast, Nat.reduceEqDiff]
  rw [V_cond]
  simp (disch := omega) only [push_cast, Nat.reduceEqDiff]
  refine condX_b (fun hg => ?_) (fun hg => ?_)
  · simp (disch := omega) only [push_cast, Nat.reduceEqDiff]
    exact finIs (hL _ _) (congrArg i64 (by rw [Bool.not_eq_true'] at hg; unfold fitsP; rw [hm, hg]; rfl))
  · simp (disch := omega) only [push_cast, Nat.reduceEqDiff]
    rw [Bool.not_eq_false'] at hg
    exact finIs (hL _ _) (congrArg i64 (by unfold fitsP; rw [hm, hg]; rfl))
end Go.Proofs.YtjkogfiidhjpcaaDoor
