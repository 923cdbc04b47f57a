/- YtjkogfiidhjpcaaDoor: walks, part 129: what a field's zero value weighs: the program's. -/
import Derived.Test.YtjkogfiidhjpcaaDoorW128
namespace Go.Proofs.YtjkogfiidhjpcaaDoor
open Go Go.K
set_option maxRecDepth 100000
set_option linter.unusedVariables false
set_option linter.unusedSimpArgs false
set_option maxHeartbeats 4000000
theorem min_i64A {P : Program} {K : Value → Prop} (ats : Array TypeId) (ty : TypeId) (x y : Int) (h : K (i64 (min x y))) : PureX P (Builtin.min_ ats ty #[i64 x, i64 y]) (tag K) := by
  refine ⟨_, fun w => ?_, h⟩
  have h0 : Builtin.min_ ats ty #[i64 x, i64 y] = Builtin.min2 (i64 x) (i64 y) := by
    show List.foldlM Builtin.min2 (i64 x) [i64 y] = _
    simp
  rw [h0]
  show (pure (Value.int .i64 (if y < x then y else x)) : Sem Value).run P w = _
  have h1 : (if y < x then y else x) = min x y := by
    rw [Int.min_def]
    split <;> split <;> omega
  rw [h1]
  rfl
theorem zw_14 {d : Nat} {f : Fld} (hl : ¬ letsP f = true) (h : f.k = 14) : zwD (d + 1) f = min (16 + f.wd) 4194305 := by
  rw [zwD, if_neg hl, if_neg (by omega), if_pos h]
theorem zw_18 {d : Nat} {f g : Fld} (hl : ¬ letsP f = true) (h : f.k = 18) (hg : f.sub[0]? = some g) : zwD (d + 1) f = min (16 + zwD d g) 4194305 := by
  rw [zwD, if_neg hl, if_neg (by omega), if_neg (by omega), if_pos h, hg]
theorem zw_16 {d : Nat} {f g : Fld} (hl : ¬ letsP f = true) (h : f.k = 16) (hg : f.sub[0]? = some g) : zwD (d + 1) f = min (16 + f.wd * zwD d g) 4194305 := by
  rw [zwD, if_neg hl, if_neg (by omega), if_neg (by omega), if_neg (by omega), if_pos h, hg]
theorem zw_17 {d : Nat} {f : Fld} (hl : ¬ letsP f = true) (h : f.k = 17) : zwD (d + 1) f = min (16 + (f.sub.map (zwD d)).sum) 4194305 := by
  rw [zwD, if_neg hl, if_neg (by omega), if_neg (by omega), if_neg (by omega), if_neg (by omega), if_pos h]
theorem zw_else {d : Nat} {f : Fld} (hl : ¬ letsP f = true) (h1 : f.k ≠ 14) (h2 : f.k ≠ 16) (h3 : f.k ≠ 17) (h4 : f.k ≠ 18) (h5 : ¬ (f.k = 19 ∨ f.k = 20)) : zwD (d + 1) f = 16 := by
  rw [zwD, if_neg hl, if_neg h5, if_neg h1, if_neg h4, if_neg h2, if_neg h3]
  rfl
/-- What the first so many children weigh. -/
def sumZ (d : Nat) (l : List Fld) (i : Nat) : Int := ((l.take i).map (zwD d)).sum
theorem sumZ_succ {d : Nat} {l : List Fld} {i : Nat} {g : Fld} (h : l[i]? = some g) : sumZ d l (i + 1) = sumZ d l i + zwD d g := by
  unfold sumZ
  rw [List.take_add_one, h, Option.toList_some, List.map_append, List.sum_append]
  simp
theorem sumZ_all {d : Nat} {l : List Fld} : sumZ d l l.length = (l.map (zwD d)).sum := by unfold sumZ; rw [List.take_length]
theorem sumZ_le {d : Nat} {ind : Bool} {l : List Fld} (h : ∀ g ∈ l, okZ d ind g) : ∀ i, i ≤ l.length → 0 ≤ sumZ d l i ∧ sumZ d l i ≤ i * 4194305
  | 0, _ => by simp [sumZ]
  | i + 1, hi => by
    have h1 := sumZ_le h i (by omega)
    have hg : l[i]? = some l[i] := List.getElem?_eq_getElem (by omega)
    rw [sumZ_succ hg]
    have := zw_bounds d (h _ (List.mem_of_getElem? hg))
    omega
theorem few_kids {d : Nat} {ind : Bool} {f : Fld} (h : okZ (d + 1) ind f) : f.sub.length ≤ 32 := by
  have := h.1.1.2.2.2.2
  unfold mostK at this
  split at this
  · omega
  · split at this <;> omega
structure WgI (w0 : World) (d b1 b3 : Nat) (f : Fld) (a : Option Addr) (c : Nat) (i : Nat) (wb : World) (e : Env) (ds : List Deferred) (L : Own) : Prop where
  hw : wb = w0
  hds : ds = []
  o : L = [(b3, Obj.cells #[i64 f.k, i64 f.wd, i64 f.id, i64 f.ix, .slice a f.sub.length c] 24 (0, 0)), (b1, Obj.cells #[str f.nm, .bool f.nl, i64 f.k, i64 f.wd, i64 f.id, i64 f.ix, .slice a f.sub.length c] 26 (0, 0))]
  hi : i ≤ f.sub.length
  h4 : e 4 = i64 (16 + sumZ d f.sub i)
  h34 : e 34 = .slice a f.sub.length c
  h35 : e 35 = i64 f.sub.length
  h36 : e 36 = i64 i
def WtOK (d : Nat) : Prop := ∀ (w : World) (lo : Nat) (ind : Bool) (f : Fld) (a : Option Addr) (c : Nat), lo ≤ w.heap.size → okZ d ind f → FlAt w lo f a c →
  Calls Tryd.prog 39 #[.agg (f.cells a c).toArray] w (Rets w (Is (i64 (zwD d f))))
theorem weight_step (d : Nat) (hT : WtOK d) : WtOK (d + 1) := by
  intro w lo ind f a c hlo hok hA
  have hkids := few_kids hok
  refine enterT (args := [.agg (f.cells a c).toArray]) Tryd.func39 rfl Tryd.ntmps39 (congrArg Array.toList Tryd.results39) (by kernel_rfl) (by simp) (Sy.refl w) ?_
  simp (disch := omega) only [push_cast, Nat.reduceEqDiff, Fld.cells]
  refine newI (fun b1 hb1 hn1 => ?_)
  simp (disch := omega) only [push_cast, Nat.reduceEqDiff, Fld.cells]
  refine loadX_agg Shp.eq mem0 rfl rfl ?_
  simp (disch := omega) only [push_cast, Nat.reduceEqDiff]
  have hL1 : ∀ x : Obj, ∀ p ∈ [(b1, x)], w.heap.size ≤ p.1 := fun x p hp => by rw [List.mem_singleton.1 hp]; exact hb1
  refine callV en_63 (callX_is (fun w' hw' => lets_walk w' lo (Nat.le_trans hlo hw'.size) f a c (hA.sy hlo hw' (hL1 _))) ?_)
  simp (disch := omega) only [push_cast, Nat.reduceEqDiff]
  rw [V_cond]
  simp (disch := omega) only [push_cast, Nat.reduceEqDiff]
  refine condX_b (fun hl => ?_) (fun hl => ?_)
  · simp (disch := omega) only [push_cast, Nat.reduceEqDiff]
    exact finIs (hL1 _) (by rw [zw_null hl])
  have hl : ¬ letsP f = true := by rw [hl]; simp
  simp (disch := omega) only [push_cast, Nat.reduceEqDiff]
  refine loadX_agg Shp.eq mem0 rfl rfl ?_
  simp (disch := omega) only [push_cast, Nat.reduceEqDiff]
  refine newI (fun b3 hb3 hn3 => ?_)
  simp (disch := omega) only [push_cast, Nat.reduceEqDiff]
  refine storeX 0 rfl Siz.eq rfl rfl (by simp [Value.oneCell']) (by simp) ?_
  simp (disch := omega) only [push_cast, Nat.reduceEqDiff]
  refine ldOne Shp.eq mem0 rfl ?_
  simp (disch := omega) only [push_cast, Nat.reduceEqDiff]
  have hL : ∀ x y : Obj, ∀ p ∈ [(b3, x), (b1, y)], w.heap.size ≤ p.1 := fun x y p hp => by
    simp only [List.mem_cons, List.mem_nil_iff, or_false] at hp
    rcases hp with rfl | rfl
    · exact hb3
    · exact hb1
  rw [V_block]
  simp (disch := omega) only [push_cast, Nat.reduceEqDiff]
  rw [V_cond]
  simp (disch := omega) only [push_cast, Nat.reduceEqDiff]
  refine condX_d (fun h14 => ?_) (fun h14 => ?_)
  · have hwd := wid14 hok.1.1.2.1 h14
    simp (disch := omega) only [push_cast, Nat.reduceEqDiff]
    refine ldOne Shp.eq mem0 rfl ?_
    simp (disch := omega) only [push_cast, Nat.reduceEqDiff]
    refine min_i64A _ _ _ _ ?_
    simp (disch := omega) only [push_cast, Nat.reduceEqDiff]
    exact finIs (hL _ _) (by rw [zw_14 hl h14])
  simp (disch := omega) only [push_cast, Nat.reduceEqDiff]
  rw [V_cond]
  simp (disch := omega) only [push_cast, Nat.reduceEqDiff]
  refine condX_d (fun h16 => ?_) (fun h16 => ?_)
  · have hwd := wid16 hok.1.1.2.1 h16
    obtain ⟨g, hg, hg2⟩ := one_child hok (by omega)
    obtain ⟨b, off, ga, gc, rfl, hb, hat, hG⟩ := hA.get (i := 0) (g := g) (by rw [hg]; rfl)
    have hlen : 0 < f.sub.length := by rw [hg]; simp
    have hz := zw_bounds d hg2
    have hm1 : 0 ≤ f.wd * zwD d g := Int.mul_nonneg (by omega) (by omega)
    have hm2 : f.wd * zwD d g ≤ 64 * 4194305 := Int.le_trans (Int.mul_le_mul_of_nonneg_right hwd.2 (by omega)) (by omega)
    simp (disch := omega) only [push_cast, Nat.reduceEqDiff]
    refine drawQT (by kernel_rfl) (by kernel_rfl) mixed (by kernel_rfl) ?_
    simp (disch := omega) only [push_cast, Nat.reduceEqDiff]
    refine ldOne Shp.eq mem0 rfl ?_
    simp (disch := omega) only [push_cast, Nat.reduceEqDiff]
    refine ldOne Shp.eq mem0 rfl ?_
    simp (disch := omega) only [push_cast, Nat.reduceEqDiff]
    refine ldAggF Shp.eq hat rfl (out_of (fun p hp => Nat.lt_of_lt_of_le (Nat.lt_of_lt_of_le hb hlo) (hL _ _ p hp))) ?_
    simp (disch := omega) only [push_cast, Nat.reduceEqDiff, Fld.cells]
    refine qcallV en_39 (qcallX_is _ (fun w' hw' => hT w' lo _ g ga gc (Nat.le_trans hlo hw'.size) hg2 (hG.sy hlo hw' (hL _ _))) ?_)
    simp (disch := omega) only [push_cast, Nat.reduceEqDiff]
    refine min_i64A _ _ _ _ ?_
    simp (disch := omega) only [push_cast, Nat.reduceEqDiff]
    exact finIs (hL _ _) (by rw [zw_16 hl h16 (by rw [hg]; rfl)])
  simp (disch := omega) only [push_cast, Nat.reduceEqDiff]
  rw [V_cond]
  simp (disch := omega) only [push_cast, Nat.reduceEqDiff]
  refine condX_d (fun h17 => ?_) (fun h17 => ?_)
  · simp (disch := omega) only [push_cast, Nat.reduceEqDiff]
    refine ldOne Shp.eq mem0 rfl ?_
    simp (disch := omega) only [push_cast, Nat.reduceEqDiff]
    rw [V_block]
    simp (disch := omega) only [push_cast, Nat.reduceEqDiff]
    refine loopW (G := Nat) (WgI w d b1 b3 f a c) (fun i => f.sub.length - i) 0 _ (fun w hw => hw) (by kernel_rfl) ⟨rfl, rfl, rfl, by omega, by simp [sumZ, upd], rfl, rfl, rfl⟩ ?_
    rintro i wb e ds L ⟨rfl, rfl, rfl, hi, h4, h34, h35, h36⟩
    simp (disch := omega) only [push_cast, Nat.reduceEqDiff, h4, h34, h35, h36]
    rw [V_cond]
    simp (disch := omega) only [push_cast, Nat.reduceEqDiff, h4, h34, h35, h36]
    refine condX_d (fun hlt => ?_) (fun hge => ?_)
    rotate_left
    · obtain rfl : i = f.sub.length := by omega
      simp (disch := omega) only [push_cast, Nat.reduceEqDiff, h4, h34, h35, h36]
      refine min_i64A _ _ _ _ ?_
      simp (disch := omega) only [push_cast, Nat.reduceEqDiff]
      exact finIs (hL _ _) (by rw [zw_17 hl h17, sumZ_all])
    obtain ⟨g, hg⟩ : ∃ g, f.sub[i]? = some g := ⟨_, List.getElem?_eq_getElem (by omega)⟩
    obtain ⟨b, off, ga, gc, rfl, hb, hat, hG⟩ := hA.get hg
    have hg2 := hok.2 g (List.mem_of_getElem? hg)
    have hz := zw_bounds d hg2
    have hs := sumZ_le hok.2 i hi
    simp (disch := omega) only [push_cast, Nat.reduceEqDiff, h4, h34, h35, h36]
    rw [V_block]
    simp (disch := omega) only [push_cast, Nat.reduceEqDiff, h4, h34, h35, h36]
    refine ldAggF Shp.eq hat rfl (out_of (fun p hp => Nat.lt_of_lt_of_le (Nat.lt_of_lt_of_le hb hlo) (hL _ _ p hp))) ?_
    simp (disch := omega) only [push_cast, Nat.reduceEqDiff, Fld.cells]
    refine newI (fun b6 hb6 hn6 => ?_)
    simp (disch := omega) only [push_cast, Nat.reduceEqDiff, h4, h34, h35, h36, Fld.cells]
    refine storeX 0 rfl Siz.eq rfl rfl (by simp [Value.oneCell']) (by simp) ?_
    simp (disch := omega) only [push_cast, Nat.reduceEqDiff, h4, h34, h35, h36]
    refine loadX_agg Shp.eq mem0 rfl rfl ?_
    simp (disch := omega) only [push_cast, Nat.reduceEqDiff, h4, h34, h35, h36]
    refine callV en_39 (callX_is (fun w' hw' => hT w' lo _ g ga gc (Nat.le_trans hlo hw'.size) hg2 (hG.sy hlo hw' (fun p hp => by
      rcases List.mem_cons.1 hp with rfl | hp
      · exact hb6
      · exact hL _ _ p hp))) ?_)
    simp (disch := omega) only [push_cast, Nat.reduceEqDiff, h4, h34, h35, h36]
    exact ⟨i + 1, _, fun w hw => hw.left (A := [_]) (fun p hp => by rw [List.mem_singleton.1 hp]; exact hb6), ⟨rfl, rfl, rfl, by omega, by simp only [upd]; rw [sumZ_succ hg, ← Int.add_assoc]; rfl, h34, h35, by simp only [upd]; rfl⟩, by omega⟩
  simp (disch := omega) only [push_cast, Nat.reduceEqDiff]
  rw [V_cond]
  simp (disch := omega) only [push_cast, Nat.reduceEqDiff]
  refine condX_d (fun h18 => ?_) (fun h18 => ?_)
  · obtain ⟨g, hg, hg2⟩ := first_child hok h18
    obtain ⟨b, off, ga, gc, rfl, hb, hat, hG⟩ := hA.get hg
    have hlen : 0 < f.sub.length := (List.getElem?_eq_some_iff.1 hg).1
    have hz := zw_bounds d hg2
    simp (disch := omega) only [push_cast, Nat.reduceEqDiff]
    refine ldOne Shp.eq mem0 rfl ?_
    simp (disch := omega) only [push_cast, Nat.reduceEqDiff]
    refine ldAggF Shp.eq hat rfl (out_of (fun p hp => Nat.lt_of_lt_of_le (Nat.lt_of_lt_of_le hb hlo) (hL _ _ p hp))) ?_
    simp (disch := omega) only [push_cast, Nat.reduceEqDiff, Fld.cells]
    refine callV en_39 (callX_is (fun w' hw' => hT w' lo _ g ga gc (Nat.le_trans hlo hw'.size) hg2 (hG.sy hlo hw' (hL _ _))) ?_)
    simp (disch := omega) only [push_cast, Nat.reduceEqDiff]
    refine min_i64A _ _ _ _ ?_
    simp (disch := omega) only [push_cast, Nat.reduceEqDiff]
    exact finIs (hL _ _) (by rw [zw_18 hl h18 hg])
  simp (disch := omega) only [push_cast, Nat.reduceEqDiff]
  by_cases hin : f.k = 19 ∨ f.k = 20
  · obtain ⟨g, hg, hg2⟩ := one_child hok (by omega)
    obtain ⟨b, off, ga, gc, rfl, hb, hat, hG⟩ := hA.get (i := 0) (g := g) (by rw [hg]; rfl)
    have hlen : 0 < f.sub.length := by rw [hg]; simp
    have hz := zw_bounds d hg2
    have hres : min (zwD d g) 4194305 = zwD (d + 1) f := by rw [zw_in hl hin (by rw [hg]; rfl)]; omega
    rw [V_cond]
    simp (disch := omega) only [push_cast, Nat.reduceEqDiff]
    refine condX_d (fun h19 => ?_) (fun h19 => ?_)
    · simp (disch := omega) only [push_cast, Nat.reduceEqDiff]
      rw [V_cond]
      simp (disch := omega) only [push_cast, Nat.reduceEqDiff]
      refine condX_d (fun _ => ?_) (fun hn => absurd h19 hn)
      simp (disch := omega) only [push_cast, Nat.reduceEqDiff]
      refine ldOne Shp.eq mem0 rfl ?_
      simp (disch := omega) only [push_cast, Nat.reduceEqDiff]
      refine ldAggF Shp.eq hat rfl (out_of (fun p hp => Nat.lt_of_lt_of_le (Nat.lt_of_lt_of_le hb hlo) (hL _ _ p hp))) ?_
      simp (disch := omega) only [push_cast, Nat.reduceEqDiff, Fld.cells]
      refine callV en_39 (callX_is (fun w' hw' => hT w' lo _ g ga gc (Nat.le_trans hlo hw'.size) hg2 (hG.sy hlo hw' (hL _ _))) ?_)
      simp (disch := omega) only [push_cast, Nat.reduceEqDiff]
      refine min_i64A _ _ _ _ ?_
      simp (disch := omega) only [push_cast, Nat.reduceEqDiff]
      exact finIs (hL _ _) (by rw [hres])
    · simp (disch := omega) only [push_cast, Nat.reduceEqDiff]
      rw [V_cond]
      simp (disch := omega) only [push_cast, Nat.reduceEqDiff]
      refine condX_d (fun _ => ?_) (fun hn => absurd (show f.k = 20 by omega) hn)
      simp (disch := omega) only [push_cast, Nat.reduceEqDiff]
      refine ldOne Shp.eq mem0 rfl ?_
      simp (disch := omega) only [push_cast, Nat.reduceEqDiff]
      refine ldAggF Shp.eq hat rfl (out_of (fun p hp => Nat.lt_of_lt_of_le (Nat.lt_of_lt_of_le hb hlo) (hL _ _ p hp))) ?_
      simp (disch := omega) only [push_cast, Nat.reduceEqDiff, Fld.cells]
      refine callV en_39 (callX_is (fun w' hw' => hT w' lo _ g ga gc (Nat.le_trans hlo hw'.size) hg2 (hG.sy hlo hw' (hL _ _))) ?_)
      simp (disch := omega) only [push_cast, Nat.reduceEqDiff]
      refine min_i64A _ _ _ _ ?_
      simp (disch := omega) only [push_cast, Nat.reduceEqDiff]
      exact finIs (hL _ _) (by rw [hres])
  rw [V_cond]
  simp (disch := omega) only [push_cast, Nat.reduceEqDiff]
  refine condX_d (fun h19 => absurd (Or.inl h19) hin) (fun h19 => ?_)
  simp (disch := omega) only [push_cast, Nat.reduceEqDiff]
  rw [V_cond]
  simp (disch := omega) only [push_cast, Nat.reduceEqDiff]
  refine condX_d (fun h20 => absurd (Or.inr h20) hin) (fun h20 => ?_)
  simp (disch := omega) only [push_cast, Nat.reduceEqDiff]
  refine min_i64A _ _ _ _ ?_
  simp (disch := omega) only [push_cast, Nat.reduceEqDiff]
  exact finIs (hL _ _) (by rw [zw_else hl h14 h16 h17 h18 hin]; rfl)
theorem zwt_walk : ∀ d, WtOK d
  | 0 => fun w lo ind f a c hlo hok => absurd hok id
  | d + 1 => weight_step d (zwt_walk d)
end Go.Proofs.YtjkogfiidhjpcaaDoor
/- YtjkogfiidhjpcaaDoor: walks, part 130: what a field's zero value weighs: the reference's. -/
namespace Go.Proofs.YtjkogfiidhjpcaaDoor
open Go Go.K
set_option maxRecDepth 100000
set_option linter.unusedVariables false
set_option linter.unusedSimpArgs false
set_option maxHeartbeats 4000000
theorem lets_is_nl : ∀ (d : Nat) {ind : Bool} {f : Fld}, okZ d ind f → letsP f = f.nl
  | 0, _, _, h => absurd h id
  | d + 1, ind, f, h => by
    by_cases hk : f.k = 20
    · obtain ⟨g, hg, hg2⟩ := one_child h (by omega)
      have hn := h.1.2.1
      unfold nullsB at hn
      rw [if_neg (by omega), if_neg (by omega), if_pos hk, hg] at hn
      simp at hn
      rw [lets_in hk hg, lets_is_nl d hg2, hn]
    · exact lets_nl hk h.1.2.1
theorem zw_runs {d : Nat} {ind : Bool} {f g : Fld} (h : okZ (d + 1) ind f) (hk : f.k = 20) (hs : f.sub = [g]) : zwD (d + 1) f = zwD d g := by
  by_cases hl : letsP f = true
  · have hg := h.2 g (by rw [hs]; exact .head _)
    cases d with
    | zero => exact absurd hg id
    | succ d => rw [zw_null hl, zw_null (by rw [← lets_in hk hs]; exact hl)]
  · exact zw_in hl (.inr hk) (by rw [hs]; rfl)
theorem zero_runs {d : Nat} {ind : Bool} {f g : Fld} (h : okZ (d + 1) ind f) (hk : f.k = 20) (hs : f.sub = [g]) : zeroD (d + 1) f = zeroD d g := by
  by_cases hl : letsP f = true
  · have hg := h.2 g (by rw [hs]; exact .head _)
    cases d with
    | zero => exact absurd hg id
    | succ d => rw [zero_null hl, zero_null (by rw [← lets_in hk hs]; exact hl)]
  · exact zero_in hl (.inr hk) (by rw [hs]; rfl)
structure ZgI (w0 : World) (d b2 b5 : Nat) (f : Fld) (a : Option Addr) (c : Nat) (i : Nat) (wb : World) (e : Env) (ds : List Deferred) (L : Own) : Prop where
  hw : wb = w0
  hds : ds = []
  o : L = [(b5, Obj.cells #[i64 f.k, i64 f.wd, i64 f.id, i64 f.ix, .slice a f.sub.length c] 24 (0, 0)), (b2, Obj.cells #[str f.nm, .bool f.nl, i64 f.k, i64 f.wd, i64 f.id, i64 f.ix, .slice a f.sub.length c] 26 (0, 0))]
  hi : i ≤ f.sub.length
  h1 : e 1 = i64 4194304
  h5 : e 5 = .pointer (some ⟨b5, 0, none⟩)
  h6 : e 6 = i64 (16 + sumZ d f.sub i)
  h7 : e 7 = i64 i
def ZgOK (d : Nat) : Prop := ∀ (w : World) (lo : Nat) (ind : Bool) (f : Fld) (a : Option Addr) (c : Nat), lo ≤ w.heap.size → okZ d ind f → FlAt w lo f a c →
  Calls Tryd.prog 37 #[.agg (f.cells a c).toArray, i64 4194304] w (Rets w (Is (i64 (zwD d f))))
theorem zeroWeight_step (d : Nat) (hT : ZgOK d) : ZgOK (d + 1) := by
  intro w lo ind f a c hlo hok hA
  have hkids := few_kids hok
  have hnls := lets_is_nl (d + 1) hok
  refine enterT (args := [.agg (f.cells a c).toArray, i64 4194304]) Tryd.func37 rfl Tryd.ntmps37 (congrArg Array.toList Tryd.results37) (by kernel_rfl) (by simp) (Sy.refl w) ?_
  simp (disch := omega) only [push_cast, Nat.reduceEqDiff, Fld.cells]
  refine newI (fun b2 hb2 hn2 => ?_)
  simp (disch := omega) only [push_cast, Nat.reduceEqDiff, Fld.cells]
  refine loadX_agg Shp.eq mem0 rfl rfl ?_
  simp (disch := omega) only [push_cast, Nat.reduceEqDiff]
  refine newI (fun b5 hb5 hn5 => ?_)
  simp (disch := omega) only [push_cast, Nat.reduceEqDiff]
  refine storeX 0 rfl Siz.eq rfl rfl (by simp [Value.oneCell']) (by simp) ?_
  simp (disch := omega) only [push_cast, Nat.reduceEqDiff]
  have hL : ∀ x y : Obj, ∀ p ∈ [(b5, x), (b2, y)], w.heap.size ≤ p.1 := fun x y p hp => by
    simp only [List.mem_cons, List.mem_nil_iff, or_false] at hp
    rcases hp with rfl | rfl
    · exact hb5
    · exact hb2
  refine ldOne Shp.eq mem1 rfl ?_
  simp (disch := omega) only [push_cast, Nat.reduceEqDiff]
  by_cases h20 : f.k = 20
  · obtain ⟨g, hg, hg2⟩ := one_child hok (by omega)
    obtain ⟨b, off, ga, gc, rfl, hb, hat, hG⟩ := hA.get (i := 0) (g := g) (by rw [hg]; rfl)
    have hlen : 0 < f.sub.length := by rw [hg]; simp
    rcases hnl : f.nl with _ | _
    · simp (disch := omega) only [push_cast, Nat.reduceEqDiff]
      rw [V_cond]
      simp (disch := omega) only [push_cast, Nat.reduceEqDiff]
      refine ldOne Shp.eq mem0 rfl ?_
      simp (disch := omega) only [push_cast, Nat.reduceEqDiff]
      rw [V_block]
      simp (disch := omega) only [push_cast, Nat.reduceEqDiff]
      rw [V_cond]
      simp (disch := omega) only [push_cast, Nat.reduceEqDiff]
      refine condX_d (fun hn => by omega) (fun _ => ?_)
      simp (disch := omega) only [push_cast, Nat.reduceEqDiff]
      rw [V_cond]
      simp (disch := omega) only [push_cast, Nat.reduceEqDiff]
      refine condX_d (fun hn => by omega) (fun _ => ?_)
      simp (disch := omega) only [push_cast, Nat.reduceEqDiff]
      rw [V_cond]
      simp (disch := omega) only [push_cast, Nat.reduceEqDiff]
      refine condX_d (fun _ => ?_) (fun hn => absurd h20 hn)
      simp (disch := omega) only [push_cast, Nat.reduceEqDiff]
      refine ldOne Shp.eq mem0 rfl ?_
      simp (disch := omega) only [push_cast, Nat.reduceEqDiff]
      refine ldAggF Shp.eq hat rfl (out_of (fun p hp => Nat.lt_of_lt_of_le (Nat.lt_of_lt_of_le hb hlo) (hL _ _ p hp))) ?_
      simp (disch := omega) only [push_cast, Nat.reduceEqDiff, Fld.cells]
      refine callV en_37 (callX_is (fun w' hw' => hT w' lo _ g ga gc (Nat.le_trans hlo hw'.size) hg2 (hG.sy hlo hw' (hL _ _))) ?_)
      simp (disch := omega) only [push_cast, Nat.reduceEqDiff]
      exact finIs (hL _ _) (by rw [zw_runs hok h20 hg])
    · simp (disch := omega) only [push_cast, Nat.reduceEqDiff]
      refine ldOne Shp.eq mem0 rfl ?_
      simp (disch := omega) only [push_cast, Nat.reduceEqDiff, ne_eq]
      rw [V_cond]
      simp (disch := omega) only [push_cast, Nat.reduceEqDiff, ne_eq]
      refine condX_d (fun hm => absurd h20 hm) (fun _ => ?_)
      simp (disch := omega) only [push_cast, Nat.reduceEqDiff]
      refine ldOne Shp.eq mem0 rfl ?_
      simp (disch := omega) only [push_cast, Nat.reduceEqDiff]
      rw [V_block]
      simp (disch := omega) only [push_cast, Nat.reduceEqDiff]
      rw [V_cond]
      simp (disch := omega) only [push_cast, Nat.reduceEqDiff]
      refine condX_d (fun hn => by omega) (fun _ => ?_)
      simp (disch := omega) only [push_cast, Nat.reduceEqDiff]
      rw [V_cond]
      simp (disch := omega) only [push_cast, Nat.reduceEqDiff]
      refine condX_d (fun hn => by omega) (fun _ => ?_)
      simp (disch := omega) only [push_cast, Nat.reduceEqDiff]
      rw [V_cond]
      simp (disch := omega) only [push_cast, Nat.reduceEqDiff]
      refine condX_d (fun _ => ?_) (fun hn => absurd h20 hn)
      simp (disch := omega) only [push_cast, Nat.reduceEqDiff]
      refine ldOne Shp.eq mem0 rfl ?_
      simp (disch := omega) only [push_cast, Nat.reduceEqDiff]
      refine ldAggF Shp.eq hat rfl (out_of (fun p hp => Nat.lt_of_lt_of_le (Nat.lt_of_lt_of_le hb hlo) (hL _ _ p hp))) ?_
      simp (disch := omega) only [push_cast, Nat.reduceEqDiff, Fld.cells]
      refine callV en_37 (callX_is (fun w' hw' => hT w' lo _ g ga gc (Nat.le_trans hlo hw'.size) hg2 (hG.sy hlo hw' (hL _ _))) ?_)
      simp (disch := omega) only [push_cast, Nat.reduceEqDiff]
      exact finIs (hL _ _) (by rw [zw_runs hok h20 hg])
  rcases hnl : f.nl with _ | _
  rotate_left
  · simp (disch := omega) only [push_cast, Nat.reduceEqDiff]
    refine ldOne Shp.eq mem0 rfl ?_
    simp (disch := omega) only [push_cast, Nat.reduceEqDiff, ne_eq]
    rw [V_cond]
    simp (disch := omega) only [push_cast, Nat.reduceEqDiff, ne_eq]
    refine condX_d (fun _ => ?_) (fun hm => absurd h20 hm)
    simp (disch := omega) only [push_cast, Nat.reduceEqDiff]
    exact finIs (hL _ _) (by rw [zw_null (by rw [hnls, hnl])])
  have hl : ¬ letsP f = true := by rw [hnls, hnl]; simp
  simp (disch := omega) only [push_cast, Nat.reduceEqDiff]
  rw [V_cond]
  simp (disch := omega) only [push_cast, Nat.reduceEqDiff]
  refine ldOne Shp.eq mem0 rfl ?_
  simp (disch := omega) only [push_cast, Nat.reduceEqDiff]
  rw [V_block]
  simp (disch := omega) only [push_cast, Nat.reduceEqDiff]
  rw [V_cond]
  simp (disch := omega) only [push_cast, Nat.reduceEqDiff]
  refine condX_d (fun h14 => ?_) (fun h14 => ?_)
  · have hwd := wid14 hok.1.1.2.1 h14
    simp (disch := omega) only [push_cast, Nat.reduceEqDiff]
    refine ldOne Shp.eq mem0 rfl ?_
    simp (disch := omega) only [push_cast, Nat.reduceEqDiff]
    rw [V_cond]
    simp (disch := omega) only [push_cast, Nat.reduceEqDiff]
    refine condX_d (fun hgt => by omega) (fun hgt => ?_)
    simp (disch := omega) only [push_cast, Nat.reduceEqDiff]
    exact finIs (hL _ _) (by rw [zw_14 hl h14, Int.min_eq_left (by omega)])
  simp (disch := omega) only [push_cast, Nat.reduceEqDiff]
  rw [V_cond]
  simp (disch := omega) only [push_cast, Nat.reduceEqDiff]
  refine condX_d (fun h19 => ?_) (fun h19 => ?_)
  · obtain ⟨g, hg, hg2⟩ := one_child hok (by omega)
    obtain ⟨b, off, ga, gc, rfl, hb, hat, hG⟩ := hA.get (i := 0) (g := g) (by rw [hg]; rfl)
    have hlen : 0 < f.sub.length := by rw [hg]; simp
    simp (disch := omega) only [push_cast, Nat.reduceEqDiff]
    rw [V_cond]
    simp (disch := omega) only [push_cast, Nat.reduceEqDiff]
    refine condX_d (fun _ => ?_) (fun hn => absurd h19 hn)
    simp (disch := omega) only [push_cast, Nat.reduceEqDiff]
    refine ldOne Shp.eq mem0 rfl ?_
    simp (disch := omega) only [push_cast, Nat.reduceEqDiff]
    refine ldAggF Shp.eq hat rfl (out_of (fun p hp => Nat.lt_of_lt_of_le (Nat.lt_of_lt_of_le hb hlo) (hL _ _ p hp))) ?_
    simp (disch := omega) only [push_cast, Nat.reduceEqDiff, Fld.cells]
    refine callV en_37 (callX_is (fun w' hw' => hT w' lo _ g ga gc (Nat.le_trans hlo hw'.size) hg2 (hG.sy hlo hw' (hL _ _))) ?_)
    simp (disch := omega) only [push_cast, Nat.reduceEqDiff]
    exact finIs (hL _ _) (by rw [zw_in hl (.inl h19) (by rw [hg]; rfl)])
  simp (disch := omega) only [push_cast, Nat.reduceEqDiff]
  rw [V_cond]
  simp (disch := omega) only [push_cast, Nat.reduceEqDiff]
  refine condX_d (fun hn => absurd hn h20) (fun _ => ?_)
  simp (disch := omega) only [push_cast, Nat.reduceEqDiff]
  rw [V_cond]
  simp (disch := omega) only [push_cast, Nat.reduceEqDiff]
  refine condX_d (fun h18 => ?_) (fun h18 => ?_)
  · obtain ⟨g, hg, hg2⟩ := first_child hok h18
    obtain ⟨b, off, ga, gc, rfl, hb, hat, hG⟩ := hA.get hg
    have hlen : 0 < f.sub.length := (List.getElem?_eq_some_iff.1 hg).1
    have hz := zw_bounds d hg2
    simp (disch := omega) only [push_cast, Nat.reduceEqDiff]
    refine ldOne Shp.eq mem0 rfl ?_
    simp (disch := omega) only [push_cast, Nat.reduceEqDiff]
    refine ldAggF Shp.eq hat rfl (out_of (fun p hp => Nat.lt_of_lt_of_le (Nat.lt_of_lt_of_le hb hlo) (hL _ _ p hp))) ?_
    simp (disch := omega) only [push_cast, Nat.reduceEqDiff, Fld.cells]
    refine callV en_37 (callX_is (fun w' hw' => hT w' lo _ g ga gc (Nat.le_trans hlo hw'.size) hg2 (hG.sy hlo hw' (hL _ _))) ?_)
    simp (disch := omega) only [push_cast, Nat.reduceEqDiff]
    rw [V_cond]
    simp (disch := omega) only [push_cast, Nat.reduceEqDiff]
    refine condX_d (fun hgt => ?_) (fun hgt => ?_)
    · simp (disch := omega) only [push_cast, Nat.reduceEqDiff]
      exact finIs (hL _ _) (by rw [zw_18 hl h18 hg, Int.min_eq_right (by omega)]; rfl)
    · simp (disch := omega) only [push_cast, Nat.reduceEqDiff]
      exact finIs (hL _ _) (by rw [zw_18 hl h18 hg, Int.min_eq_left (by omega)])
  simp (disch := omega) only [push_cast, Nat.reduceEqDiff]
  rw [V_cond]
  simp (disch := omega) only [push_cast, Nat.reduceEqDiff]
  refine condX_d (fun h16 => ?_) (fun h16 => ?_)
  · have hwd := wid16 hok.1.1.2.1 h16
    obtain ⟨g, hg, hg2⟩ := one_child hok (by omega)
    obtain ⟨b, off, ga, gc, rfl, hb, hat, hG⟩ := hA.get (i := 0) (g := g) (by rw [hg]; rfl)
    have hlen : 0 < f.sub.length := by rw [hg]; simp
    have hz := zw_bounds d hg2
    have hm1 : 0 ≤ f.wd * zwD d g := Int.mul_nonneg (by omega) (by omega)
    have hm2 : f.wd * zwD d g ≤ 64 * 4194305 := Int.le_trans (Int.mul_le_mul_of_nonneg_right hwd.2 (by omega)) (by omega)
    simp (disch := omega) only [push_cast, Nat.reduceEqDiff]
    refine drawQT (by kernel_rfl) (by kernel_rfl) mixed (by kernel_rfl) ?_
    simp (disch := omega) only [push_cast, Nat.reduceEqDiff]
    refine ldOne Shp.eq mem0 rfl ?_
    simp (disch := omega) only [push_cast, Nat.reduceEqDiff]
    refine ldOne Shp.eq mem0 rfl ?_
    simp (disch := omega) only [push_cast, Nat.reduceEqDiff]
    refine ldAggF Shp.eq hat rfl (out_of (fun p hp => Nat.lt_of_lt_of_le (Nat.lt_of_lt_of_le hb hlo) (hL _ _ p hp))) ?_
    simp (disch := omega) only [push_cast, Nat.reduceEqDiff, Fld.cells]
    refine qcallV en_37 (qcallX_is _ (fun w' hw' => hT w' lo _ g ga gc (Nat.le_trans hlo hw'.size) hg2 (hG.sy hlo hw' (hL _ _))) ?_)
    simp (disch := omega) only [push_cast, Nat.reduceEqDiff]
    rw [V_cond]
    simp (disch := omega) only [push_cast, Nat.reduceEqDiff]
    refine condX_d (fun hgt => ?_) (fun hgt => ?_)
    · simp (disch := omega) only [push_cast, Nat.reduceEqDiff]
      exact finIs (hL _ _) (by rw [zw_16 hl h16 (by rw [hg]; rfl), Int.min_eq_right (by omega)]; rfl)
    · simp (disch := omega) only [push_cast, Nat.reduceEqDiff]
      exact finIs (hL _ _) (by rw [zw_16 hl h16 (by rw [hg]; rfl), Int.min_eq_left (by omega)])
  simp (disch := omega) only [push_cast, Nat.reduceEqDiff]
  rw [V_cond]
  simp (disch := omega) only [push_cast, Nat.reduceEqDiff]
  refine condX_d (fun h17 => ?_) (fun h17 => ?_)
  rotate_left
  · simp (disch := omega) only [push_cast, Nat.reduceEqDiff]
    rw [V_cond]
    simp (disch := omega) only [push_cast, Nat.reduceEqDiff]
    refine condX_d (fun hgt => by omega) (fun hgt => ?_)
    simp (disch := omega) only [push_cast, Nat.reduceEqDiff]
    exact finIs (hL _ _) (by rw [zw_else hl h14 h16 h17 h18 (by omega)])
  simp (disch := omega) only [push_cast, Nat.reduceEqDiff]
  rw [V_block]
  simp (disch := omega) only [push_cast, Nat.reduceEqDiff]
  refine loopW (G := Nat) (ZgI w d b2 b5 f a c) (fun i => f.sub.length - i) 0 _ (fun w hw => hw) (by kernel_rfl) ⟨rfl, rfl, by rw [hnl], by omega, rfl, rfl, by simp [sumZ, upd], rfl⟩ ?_
  rintro i wb e ds L ⟨rfl, rfl, rfl, hi, h1, h5, h6, h7⟩
  simp (disch := omega) only [push_cast, Nat.reduceEqDiff, h1, h5, h6, h7]
  refine ldOne Shp.eq mem0 rfl ?_
  simp (disch := omega) only [push_cast, Nat.reduceEqDiff, h1, h5, h6, h7]
  rw [V_cond]
  simp (disch := omega) only [push_cast, Nat.reduceEqDiff, h1, h5, h6, h7]
  have hs := sumZ_le hok.2 i hi
  refine condX_d (fun hlt => ?_) (fun hge => ?_)
  rotate_left
  · obtain rfl : i = f.sub.length := by omega
    simp (disch := omega) only [push_cast, Nat.reduceEqDiff, h1, h5, h6, h7]
    rw [V_cond]
    simp (disch := omega) only [push_cast, Nat.reduceEqDiff, h1, h5, h6, h7]
    refine condX_d (fun hgt => ?_) (fun hgt => ?_)
    · simp (disch := omega) only [push_cast, Nat.reduceEqDiff, h1, h5, h6, h7]
      exact finIs (hL _ _) (by rw [zw_17 hl h17, ← sumZ_all, Int.min_eq_right (by omega)]; rfl)
    · simp (disch := omega) only [push_cast, Nat.reduceEqDiff, h1, h5, h6, h7]
      exact finIs (hL _ _) (by rw [zw_17 hl h17, ← sumZ_all, Int.min_eq_left (by omega)])
  obtain ⟨g, hg⟩ : ∃ g, f.sub[i]? = some g := ⟨_, List.getElem?_eq_getElem (by omega)⟩
  obtain ⟨b, off, ga, gc, rfl, hb, hat, hG⟩ := hA.get hg
  have hg2 := hok.2 g (List.mem_of_getElem? hg)
  have hz := zw_bounds d hg2
  simp (disch := omega) only [push_cast, Nat.reduceEqDiff, h1, h5, h6, h7]
  rw [V_block]
  simp (disch := omega) only [push_cast, Nat.reduceEqDiff, h1, h5, h6, h7]
  refine ldOne Shp.eq mem0 rfl ?_
  simp (disch := omega) only [push_cast, Nat.reduceEqDiff, h1, h5, h6, h7]
  refine ldAggF Shp.eq hat rfl (out_of (fun p hp => Nat.lt_of_lt_of_le (Nat.lt_of_lt_of_le hb hlo) (hL _ _ p hp))) ?_
  simp (disch := omega) only [push_cast, Nat.reduceEqDiff, h1, h5, h6, h7, Fld.cells]
  refine callV en_37 (callX_is (fun w' hw' => hT w' lo _ g ga gc (Nat.le_trans hlo hw'.size) hg2 (hG.sy hlo hw' (hL _ _))) ?_)
  simp (disch := omega) only [push_cast, Nat.reduceEqDiff, h1, h5, h6, h7]
  exact ⟨i + 1, _, fun w hw => hw, ⟨rfl, rfl, rfl, by omega, h1, h5, by simp only [upd]; rw [sumZ_succ hg, ← Int.add_assoc]; rfl, by simp only [upd]; rfl⟩, by omega⟩
theorem zeroWeight_walk : ∀ d, ZgOK d
  | 0 => fun w lo ind f a c hlo hok => absurd hok id
  | d + 1 => zeroWeight_step d (zeroWeight_walk d)
end Go.Proofs.YtjkogfiidhjpcaaDoor
