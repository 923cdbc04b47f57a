/- YtjkogfiidhjpcaaDoor: walks, part 100: the reference's: what a value weighs; does a value fit any field. -/
import Derived.Test.YtjkogfiidhjpcaaDoorW88
import Derived.Test.YtjkogfiidhjpcaaDoorW90
import Derived.Test.YtjkogfiidhjpcaaDoorW99
import Derived.Test.YtjkogfiidhjpcaaDoorW26
namespace Go.Proofs.YtjkogfiidhjpcaaDoor
open Go Go.K
set_option maxRecDepth 100000
set_option linter.unusedVariables false
set_option linter.unusedSimpArgs false
set_option maxHeartbeats 4000000
/-- What a value weighs, up to a bound. -/
def wtP (v : Vl) (most : Int) : Int := if (wV v : Int) ≤ most then wV v else most + 1
structure WtI (w0 : World) (b2 : Nat) (v : Vl) (va : Option Addr) (vc : Nat) (most : Int) (i : Nat) (wb : World) (e : Env) (ds : List Deferred) (L : Own) : Prop where
  hw : wb = w0
  hds : ds = []
  o : L = [(b2, Obj.cells #[.bool v.nu, i64 v.num, str v.tx, .slice va v.ls.length vc] 29 (0, 0))]
  hi : i ≤ v.ls.length
  n : ∃ n : Int, e 5 = i64 n ∧ ((n = (16 + v.tx.length + wL (v.ls.take i) : Nat) ∧ n ≤ most) ∨ (n = most + 1 ∧ most < wV v))
  h1 : e 1 = i64 most
  h2 : e 2 = .pointer (some ⟨b2, 0, none⟩)
  h6 : e 6 = i64 i
theorem weight_walk : ∀ (n : Nat) (w : World) (lo : Nat) (v : Vl) (va : Option Addr) (vc : Nat) (most : Int), SizeOf.sizeOf v ≤ n → lo ≤ w.heap.size → VAt w lo v va vc → 0 ≤ most → most ≤ 4611686018427387904 →
    Calls Tryd.prog 28 #[.agg (v.cells va vc).toArray, i64 most] w (Rets w (Is (i64 (wtP v most)))) := by
  intro n
  induction n with
  | zero => intro w lo v va vc most hn; cases v; simp at hn
  | succ n ih =>
  intro w lo v va vc most hn hlo hV hm0 hm1
  have hbnd : v.ls.length ≤ 9223372036854775807 := Nat.le_trans hV.hc hV.hc2
  have htx := hV.ht
  have hwv := wV_eq v
  refine enterT (args := [.agg (v.cells va vc).toArray, i64 most]) Tryd.func28 rfl Tryd.ntmps28 (congrArg Array.toList Tryd.results28) (by kernel_rfl) (by simp) (Sy.refl w) ?_
  simp (disch := omega) only [push_cast, Nat.reduceEqDiff, Vl.cells]
  refine newI (fun b2 hb2 hn2 => ?_)
  simp (disch := omega) only [push_cast, Nat.reduceEqDiff, Vl.cells]
  have hL : ∀ x : Obj, ∀ p ∈ [(b2, x)], w.heap.size ≤ p.1 := fun x p hp => by rw [List.mem_singleton.1 hp]; exact hb2
  refine ldOne Shp.eq mem0 rfl ?_
  simp (disch := omega) only [push_cast, Nat.reduceEqDiff]
  rw [V_cond]
  simp (disch := omega) only [push_cast, Nat.reduceEqDiff]
  refine condX_d (fun hg => ?_) (fun hg => ?_)
  · simp (disch := omega) only [push_cast, Nat.reduceEqDiff]
    exact finIs (hL _) (congrArg i64 (by unfold wtP; rw [if_neg (by omega)]))
  simp (disch := omega) only [push_cast, Nat.reduceEqDiff]
  refine ldOne Shp.eq mem0 rfl ?_
  simp (disch := omega) only [push_cast, Nat.reduceEqDiff]
  rw [V_block]
  simp (disch := omega) only [push_cast, Nat.reduceEqDiff]
  refine loopW (G := Nat) (WtI w b2 v va vc most) (fun i => v.ls.length - i) 0 _ (fun w hw => hw) (by kernel_rfl) ⟨rfl, rfl, rfl, by omega, ⟨_, rfl, .inl ⟨by simp [wL], by omega⟩⟩, rfl, rfl, rfl⟩ ?_
  rintro i wb e ds L ⟨rfl, rfl, rfl, hi, ⟨z, h5, hz⟩, h1, h2, h6⟩
  simp (disch := omega) only [push_cast, Nat.reduceEqDiff, h1, h2, h5, h6]
  refine ldOne Shp.eq mem0 rfl ?_
  simp (disch := omega) only [push_cast, Nat.reduceEqDiff, h1, h2, h5, h6]
  rw [V_cond]
  simp (disch := omega) only [push_cast, Nat.reduceEqDiff, h1, h2, h5, h6]
  have hle := wL_take_le v.ls i
  refine condX_d (fun hlt => ?_) (fun hge => ?_)
  · simp (disch := omega) only [push_cast, Nat.reduceEqDiff, h1, h2, h5, h6]
    rw [V_block]
    simp (disch := omega) only [push_cast, Nat.reduceEqDiff, h1, h2, h5, h6]
    rw [V_cond]
    simp (disch := omega) only [push_cast, Nat.reduceEqDiff, h1, h2, h5, h6]
    refine condX_d (fun hz2 => ?_) (fun hz2 => ?_)
    · simp (disch := omega) only [push_cast, Nat.reduceEqDiff, h1, h2, h5, h6]
      exact finIs (hL _) (congrArg i64 (by unfold wtP; rw [if_neg (by omega)]))
    obtain ⟨x, hx⟩ : ∃ x, v.ls[i]? = some x := ⟨_, List.getElem?_eq_getElem (by omega)⟩
    obtain ⟨xb, xoff, xa, xc, rfl, x1, x2, x3⟩ := hV.get hx
    have hsz := Vl.size_get hx
    have hfx := wL_take hx
    have hle2 := wL_take_le v.ls (i + 1)
    simp (disch := omega) only [push_cast, Nat.reduceEqDiff, h1, h2, h5, h6]
    refine ldOne Shp.eq mem0 rfl ?_
    simp (disch := omega) only [push_cast, Nat.reduceEqDiff, h1, h2, h5, h6]
    refine ldAggF Shp.eq x2 rfl (out_of (fun p hp => Nat.lt_of_lt_of_le (Nat.lt_of_lt_of_le x1 hlo) (hL _ p hp))) ?_
    simp (disch := omega) only [push_cast, Nat.reduceEqDiff, h1, h2, h5, h6, Vl.cells]
    refine callV en_28 (callX_is (fun w' hw' => ih w' lo x xa xc (most - z) (by omega) (Nat.le_trans hlo hw'.size) (x3.sy hlo hw' (hL _)) (by omega) (by omega)) ?_)
    have hr : (z + wtP x (most - z) = (16 + v.tx.length + wL (v.ls.take (i + 1)) : Nat) ∧ z + wtP x (most - z) ≤ most) ∨ (z + wtP x (most - z) = most + 1 ∧ most < wV v) := by
      unfold wtP
      by_cases hc : (wV x : Int) ≤ most - z
      · rw [if_pos hc]; left; omega
      · rw [if_neg hc]; right; omega
    generalize wtP x (most - z) = r at hr ⊢
    simp (disch := omega) only [push_cast, Nat.reduceEqDiff, h1, h2, h5, h6]
    exact ⟨i + 1, _, fun w hw => hw, ⟨rfl, rfl, rfl, by omega, ⟨_, by simp only [upd]; rfl, hr⟩, h1, h2, by simp only [upd]; rfl⟩, by omega⟩
  · obtain rfl : i = v.ls.length := by omega
    rw [List.take_length] at hz
    simp (disch := omega) only [push_cast, Nat.reduceEqDiff, h1, h2, h5, h6]
    rw [V_cond]
    simp (disch := omega) only [push_cast, Nat.reduceEqDiff, h1, h2, h5, h6]
    refine condX_d (fun hz2 => ?_) (fun hz2 => ?_)
    · simp (disch := omega) only [push_cast, Nat.reduceEqDiff, h1, h2, h5, h6]
      exact finIs (hL _) (congrArg i64 (by unfold wtP; rw [if_neg (by omega)]))
    · simp (disch := omega) only [push_cast, Nat.reduceEqDiff, h1, h2, h5, h6]
      exact finIs (hL _) (congrArg i64 (by unfold wtP; rw [if_pos (by omega)]; omega))
theorem right_walk (w : World) (lo : Nat) (hlo : lo ≤ w.heap.size) (f : Fld) (a : Option Addr) (c : Nat) (hA : FlAt w lo f a c) (hfn : f.nm.length ≤ 9223372036854775807) :
    Calls Tryd.prog 33 #[.agg (f.cells a c).toArray] w (Rets w (Is (.bool (mayD f)))) := by
  refine enterT (args := [.agg (f.cells a c).toArray]) Tryd.func33 rfl Tryd.ntmps33 (congrArg Array.toList Tryd.results33) (by kernel_rfl) (by simp) (Sy.refl w) ?_
  simp (disch := omega) only [push_cast, Nat.reduceEqDiff, Fld.cells]
  refine newI (fun b1 hb1 hn1 => ?_)
  simp (disch := omega) only [push_cast, Nat.reduceEqDiff, Fld.cells]
  refine loadX_agg Shp.eq mem0 rfl rfl ?_
  simp (disch := omega) only [push_cast, Nat.reduceEqDiff]
  have hL : ∀ x : Obj, ∀ p ∈ [(b1, x)], w.heap.size ≤ p.1 := fun x p hp => by rw [List.mem_singleton.1 hp]; exact hb1
  refine callV en_59 (callX_new (fun w' hw' => checkFieldR_walk w' lo (Nat.le_trans hlo hw'.size) f a c (hA.sy hlo hw' (hL _)).hr hA.hc hA.hc2 hfn) (fun v M hM _ hv => ?_))
  obtain ⟨pa, pc, rfl, -⟩ := hv
  simp (disch := omega) only [push_cast, Nat.reduceEqDiff]
  refine newI (fun b3 hb3 hn3 => ?_)
  simp (disch := omega) only [push_cast, Nat.reduceEqDiff]
  refine storeX 0 rfl Siz.eq rfl rfl (by simp [Value.oneCell']) (by simp) ?_
  simp (disch := omega) only [push_cast, Nat.reduceEqDiff]
  refine ldOne Shp.eq mem0 rfl ?_
  simp (disch := omega) only [push_cast, Nat.reduceEqDiff]
  refine finIs (fun p hp => ?_) rfl
  rcases List.mem_cons.1 hp with rfl | hp
  · exact hb3
  rcases List.mem_append.1 hp with hp | hp
  · exact hM p hp
  · exact hL _ p hp
theorem fitsRight_walk (w : World) (lo : Nat) (hlo : lo ≤ w.heap.size) (f : Fld) (v : Vl) (a va : Option Addr) (c vc : Nat) (hok : okD 64 f) (hA : FlAt w lo f a c) (hV : VAt w lo v va vc) :
    Calls Tryd.prog 34 #[.agg (f.cells a c).toArray, .agg (v.cells va vc).toArray] w (Rets w (Is (.bool (goodD f v)))) := by
  refine enterT (args := [.agg (f.cells a c).toArray, .agg (v.cells va vc).toArray]) Tryd.func34 rfl Tryd.ntmps34 (congrArg Array.toList Tryd.results34) (by kernel_rfl) (by simp) (Sy.refl w) ?_
  simp (disch := omega) only [push_cast, Nat.reduceEqDiff, Fld.cells, Vl.cells]
  refine newI (fun b2 hb2 hn2 => ?_)
  simp (disch := omega) only [push_cast, Nat.reduceEqDiff, Fld.cells, Vl.cells]
  refine newI (fun b3 hb3 hn3 => ?_)
  simp (disch := omega) only [push_cast, Nat.reduceEqDiff, Fld.cells, Vl.cells]
  have hL : ∀ x y : Obj, ∀ p ∈ [(b3, x), (b2, y)], w.heap.size ≤ p.1 := fun x y p hp => by
    simp only [List.mem_cons, List.mem_nil_iff, or_false] at hp
    rcases hp with rfl | rfl
    · exact hb3
    · exact hb2
  refine loadX_agg Shp.eq mem0 rfl rfl ?_
  simp (disch := omega) only [push_cast, Nat.reduceEqDiff]
  refine callV en_28 (callX_is (fun w' hw' => weight_walk _ w' lo v va vc 4194304 (Nat.le_refl _) (Nat.le_trans hlo hw'.size) (hV.sy hlo hw' (hL _ _)) (by omega) (by omega)) ?_)
  have hw : wtP v 4194304 ≤ 4194304 ↔ wV v ≤ 4194304 := by unfold wtP; split <;> omega
  generalize wtP v 4194304 = r at hw ⊢
  simp (disch := omega) only [push_cast, Nat.reduceEqDiff]
  refine guardX_t rfl (fun hg => ?_) (fun hg => ?_)
  · simp (disch := omega) only [push_cast, Nat.reduceEqDiff]
    refine loadX_agg Shp.eq mem1 rfl rfl ?_
    simp (disch := omega) only [push_cast, Nat.reduceEqDiff]
    refine loadX_agg Shp.eq mem0 rfl rfl ?_
    simp (disch := omega) only [push_cast, Nat.reduceEqDiff]
    refine callV en_60 (callX_is (fun w' hw' => fitsR_all 64 w' lo f v a va c vc (Nat.le_trans hlo hw'.size) hok (hA.sy hlo hw' (hL _ _)) (hV.sy hlo hw' (hL _ _)) (hw.1 hg)) ?_)
    simp (disch := omega) only [push_cast, Nat.reduceEqDiff]
    exact finIs (hL _ _) (congrArg Value.bool (by unfold goodD; rw [decide_eq_true (show (wV v : Int) ≤ 4194304 by have := hw.1 hg; omega), Bool.and_true]))
  · simp (disch := omega) only [push_cast, Nat.reduceEqDiff]
    exact finIs (hL _ _) (congrArg Value.bool (by unfold goodD; rw [decide_eq_false (fun h => hg (hw.2 (by omega))), Bool.and_false]))
theorem fitsRef_walk (w : World) (lo : Nat) (hlo : lo ≤ w.heap.size) (f : Fld) (v : Vl) (a va : Option Addr) (c vc : Nat) (hA : FlAt w lo f a c) (hfn : f.nm.length ≤ 9223372036854775807) (hV : VAt w lo v va vc) :
    Calls Tryd.prog 17 #[.agg (f.cells a c).toArray, .agg (v.cells va vc).toArray] w (Rets w (Is (i64 (fitsP f v)))) := by
  refine enterT (args := [.agg (f.cells a c).toArray, .agg (v.cells va vc).toArray]) Tryd.func17 rfl Tryd.ntmps17 (congrArg Array.toList Tryd.results17) (by kernel_rfl) (by simp) (Sy.refl w) ?_
  simp (disch := omega) only [push_cast, Nat.reduceEqDiff, Fld.cells, Vl.cells]
  refine newI (fun b2 hb2 hn2 => ?_)
  simp (disch := omega) only [push_cast, Nat.reduceEqDiff, Fld.cells, Vl.cells]
  refine newI (fun b3 hb3 hn3 => ?_)
  simp (disch := omega) only [push_cast, Nat.reduceEqDiff, Fld.cells, Vl.cells]
  have hL : ∀ x y : Obj, ∀ p ∈ [(b3, x), (b2, y)], w.heap.size ≤ p.1 := fun x y p hp => by
    simp only [List.mem_cons, List.mem_nil_iff, or_false] at hp
    rcases hp with rfl | rfl
    · exact hb3
    · exact hb2
  refine loadX_agg Shp.eq mem1 rfl rfl ?_
  simp (disch := omega) only [push_cast, Nat.reduceEqDiff]
  refine callV en_33 (callX_is (fun w' hw' => right_walk w' lo (Nat.le_trans hlo hw'.size) f a c (hA.sy hlo hw' (hL _ _)) hfn) ?_)
  simp (disch := omega) only [push_cast, Nat.reduceEqDiff]
  rw [V_cond]
  simp (disch := omega) only [push_cast, Nat.reduceEqDiff]
  refine condX_b (fun hm => ?_) (fun hm => ?_)
  · simp (disch := omega) only [push_cast, Nat.reduceEqDiff]
    exact finIs (hL _ _) (congrArg i64 (by rw [Bool.not_eq_true'] at hm; unfold fitsP; rw [hm]; rfl))
  rw [Bool.not_eq_false'] at hm
  simp (disch := omega) only [push_cast, Nat.reduceEqDiff]
  refine loadX_agg Shp.eq mem1 rfl rfl ?_
  simp (disch := omega) only [push_cast, Nat.reduceEqDiff]
  refine loadX_agg Shp.eq mem0 rfl rfl ?_
  simp (disch := omega) only [push_cast, Nat.reduceEqDiff]
  refine callV en_34 (callX_is (fun w' hw' => fitsRight_walk w' lo (Nat.le_trans hlo hw'.size) f v a va c vc (mayD_okD hm) (hA.sy hlo hw' (hL _ _)) (hV.sy hlo hw' (hL _ _))) ?_)
  simp (disch := omega) only [push_cast, Nat.reduceEqDiff]
  rw [V_cond]
  simp (disch := omega) only [push_cast, Nat.reduceEqDiff]
  refine condX_b (fun hg => ?_) (fun hg => ?_)
  · simp (disch := omega) only [push_cast, Nat.reduceEqDiff]
    exact finIs (hL _ _) (congrArg i64 (by rw [Bool.not_eq_true'] at hg; unfold fitsP; rw [hm, hg]; rfl))
  · simp (disch := omega) only [push_cast, Nat.reduceEqDiff]
    rw [Bool.not_eq_false'] at hg
    exact finIs (hL _ _) (congrArg i64 (by unfold fitsP; rw [hm, hg]; rfl))
/-- Is a value heavier than may be asked about? -/
def heavyD (v : Vl) : Bool := decide ((2147483647 : Int) < wV v)
theorem heavy_walk (w : World) (lo : Nat) (hlo : lo ≤ w.heap.size) (v : Vl) (va : Option Addr) (vc : Nat) (hV : VAt w lo v va vc) :
    Calls Tryd.prog 8 #[.agg (v.cells va vc).toArray] w (Rets w (Is (.bool (heavyD v)))) := by
  refine enterT (args := [.agg (v.cells va vc).toArray]) Tryd.func8 rfl Tryd.ntmps8 (congrArg Array.toList Tryd.results8) (by kernel_rfl) (by simp) (Sy.refl w) ?_
  simp (disch := omega) only [push_cast, Nat.reduceEqDiff, Vl.cells]
  refine newI (fun b1 hb1 hn1 => ?_)
  simp (disch := omega) only [push_cast, Nat.reduceEqDiff, Vl.cells]
  have hL : ∀ x : Obj, ∀ p ∈ [(b1, x)], w.heap.size ≤ p.1 := fun x p hp => by rw [List.mem_singleton.1 hp]; exact hb1
  refine loadX_agg Shp.eq mem0 rfl rfl ?_
  simp (disch := omega) only [push_cast, Nat.reduceEqDiff]
  refine callV en_28 (callX_is (fun w' hw' => weight_walk _ w' lo v va vc 2147483647 (Nat.le_refl _) (Nat.le_trans hlo hw'.size) (hV.sy hlo hw' (hL _)) (by omega) (by omega)) ?_)
  have hw : (2147483647 : Int) < wtP v 2147483647 ↔ (2147483647 : Int) < wV v := by unfold wtP; split <;> omega
  generalize wtP v 2147483647 = r at hw ⊢
  simp (disch := omega) only [push_cast, Nat.reduceEqDiff]
  exact finIs (hL _) (congrArg Value.bool (by unfold heavyD; rw [decide_eq_decide]; exact hw))
end Go.Proofs.YtjkogfiidhjpcaaDoor
