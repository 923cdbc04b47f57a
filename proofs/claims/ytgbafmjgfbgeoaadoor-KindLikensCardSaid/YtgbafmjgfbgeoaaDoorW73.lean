/- YtgbafmjgfbgeoaaDoor: walks, part 71: the reference's: types by themselves: the field that holds one, may it be, how wide a row is, its shape. -/
import Derived.Test.YtgbafmjgfbgeoaaDoorW67
import Derived.Test.YtgbafmjgfbgeoaaDoorW26
import Derived.Test.YtgbafmjgfbgeoaaDoorW32
import Derived.Test.YtgbafmjgfbgeoaaDoorKs
namespace Go.Proofs.YtgbafmjgfbgeoaaDoor
open Go Go.K
set_option maxRecDepth 100000
set_option linter.unusedVariables false
set_option linter.unusedSimpArgs false
set_option maxHeartbeats 1000000
theorem holderR_walk (w : World) (lo : Nat) (hlo : lo ≤ w.heap.size) (f : Fld) (a : Option Addr) (c : Nat) (hT : TyAt w lo f a c) :
    Calls Tryd.prog 51 #[tyV f a c] w (Rets w (Is (.agg ((holdR f).cells a c).toArray))) := by
  refine enterT (args := [tyV f a c]) Tryd.func51 rfl Tryd.ntmps51 (congrArg Array.toList Tryd.results51) (by kernel_rfl) (by simp) (Sy.refl w) ?_
  simp (disch := omega) only [push_cast, Nat.reduceEqDiff, Fld.tcells]
  refine newI (fun b1 hb1 hn1 => ?_)
  simp (disch := omega) only [push_cast, Nat.reduceEqDiff, Fld.tcells]
  refine newI (fun b2 hb2 hn2 => ?_)
  simp (disch := omega) only [push_cast, Nat.reduceEqDiff, Fld.tcells]
  refine loadX_agg Shp.eq mem1 rfl rfl ?_
  simp (disch := omega) only [push_cast, Nat.reduceEqDiff]
  refine newI (fun b3 hb3 hn3 => ?_)
  simp (disch := omega) only [push_cast, Nat.reduceEqDiff]
  refine storeX 0 rfl Siz.eq rfl rfl (by simp [Value.oneCell']) (by simp) ?_
  simp (disch := omega) only [push_cast, Nat.reduceEqDiff]
  have hL : ∀ x y z : Obj, ∀ p ∈ [(b3, x), (b2, y), (b1, z)], w.heap.size ≤ p.1 := fun x y z p hp => by
    simp only [List.mem_cons, List.mem_nil_iff, or_false] at hp
    rcases hp with rfl | rfl | rfl <;> assumption
  refine ldOne Shp.eq mem2 rfl ?_
  simp (disch := omega) only [push_cast, Nat.reduceEqDiff]
  have hval : ∀ v : Bool, v = (holdR f).nl → Value.agg #[str [97], .bool v, i64 f.k, i64 f.wd, i64 f.id, i64 f.ix, .slice a f.sub.length c] = .agg ((holdR f).cells a c).toArray := fun v hv => by subst hv; rfl
  by_cases h1 : f.k = 1
  · have d1 : decide (f.k = 1) = true := decide_eq_true h1
    simp (disch := omega) only [push_cast, Nat.reduceEqDiff, d1]
    repeat' (first | ((first | refine guardX_t rfl (fun h => ?_) (fun h => ?_) | refine guardX_f rfl (fun h => ?_) (fun h => ?_) | refine condX_d (fun h => ?_) (fun h => ?_) | (refine guardX_bt rfl (fun h => ?_) (fun h => ?_) <;> (try subst h)) | (refine guardX_bf rfl (fun h => ?_) (fun h => ?_) <;> (try subst h)) | (refine condX_b (fun h => ?_) (fun h => ?_) <;> (try subst h)) | refine ldOne Shp.eq (by (first | exact mem0 | exact mem1 | exact mem2 | exact mem3 | exact mem4 | exact mem5)) rfl ?_ | refine loadX_agg Shp.eq (by (first | exact mem0 | exact mem1 | exact mem2 | exact mem3 | exact mem4 | exact mem5)) rfl rfl ?_ | refine newI (fun b hb hn => ?_) | refine storeX 0 rfl Siz.eq rfl rfl (by simp [Value.oneCell']) (by simp) ?_ | refine storeX 1 rfl Siz.eq rfl rfl (by simp [Value.oneCell']) (by simp) ?_ | refine storeX 2 rfl Siz.eq rfl rfl (by simp [Value.oneCell']) (by simp) ?_ | refine storeX 3 rfl Siz.eq rfl rfl (by simp [Value.oneCell']) (by simp) ?_ | refine storeX 4 rfl Siz.eq rfl rfl (by simp [Value.oneCell']) (by simp) ?_ | refine storeX 5 rfl Siz.eq rfl rfl (by simp [Value.oneCell']) (by simp) ?_ | refine storeX 6 rfl Siz.eq rfl rfl (by simp [Value.oneCell']) (by simp) ?_) <;> simp (disch := omega) only [push_cast, Nat.reduceEqDiff, d1]) | (first | rw [V_cond] | rw [V_block]) <;> (try simp (disch := omega) only [push_cast, Nat.reduceEqDiff, d1]))
    exact finIs (hL _ _ _) (hval _ (by simp [holdR, Fld.nl, h1]))
  have d1 : decide (f.k = 1) = false := decide_eq_false h1
  simp (disch := omega) only [push_cast, Nat.reduceEqDiff, d1]
  repeat' (first | ((first | refine guardX_t rfl (fun h => ?_) (fun h => ?_) | refine guardX_f rfl (fun h => ?_) (fun h => ?_) | refine condX_d (fun h => ?_) (fun h => ?_) | (refine guardX_bt rfl (fun h => ?_) (fun h => ?_) <;> (try subst h)) | (refine guardX_bf rfl (fun h => ?_) (fun h => ?_) <;> (try subst h)) | (refine condX_b (fun h => ?_) (fun h => ?_) <;> (try subst h)) | refine ldOne Shp.eq (by (first | exact mem0 | exact mem1 | exact mem2 | exact mem3 | exact mem4 | exact mem5)) rfl ?_ | refine loadX_agg Shp.eq (by (first | exact mem0 | exact mem1 | exact mem2 | exact mem3 | exact mem4 | exact mem5)) rfl rfl ?_ | refine newI (fun b hb hn => ?_) | refine storeX 0 rfl Siz.eq rfl rfl (by simp [Value.oneCell']) (by simp) ?_ | refine storeX 1 rfl Siz.eq rfl rfl (by simp [Value.oneCell']) (by simp) ?_ | refine storeX 2 rfl Siz.eq rfl rfl (by simp [Value.oneCell']) (by simp) ?_ | refine storeX 3 rfl Siz.eq rfl rfl (by simp [Value.oneCell']) (by simp) ?_ | refine storeX 4 rfl Siz.eq rfl rfl (by simp [Value.oneCell']) (by simp) ?_ | refine storeX 5 rfl Siz.eq rfl rfl (by simp [Value.oneCell']) (by simp) ?_ | refine storeX 6 rfl Siz.eq rfl rfl (by simp [Value.oneCell']) (by simp) ?_) <;> simp (disch := omega) only [push_cast, Nat.reduceEqDiff, d1]) | (first | rw [V_cond] | rw [V_block]) <;> (try simp (disch := omega) only [push_cast, Nat.reduceEqDiff, d1]))
  rotate_left
  · exact finIs (hL _ _ _) (hval _ (by simp_all [holdR, Fld.nl]; omega))
  · exact finIs (hL _ _ _) (hval _ (by simp_all [holdR, Fld.nl]))
  have hlen : f.sub.length = 1 := by omega
  obtain ⟨g, l, hl⟩ : ∃ g l, f.sub = g :: l := List.exists_cons_of_ne_nil (fun h0 => by rw [h0] at hlen; simp at hlen)
  have hpos : 0 < f.sub.length := by omega
  have hr := hT.hr
  rw [hl] at hr
  obtain ⟨b', off, rfl, hb'⟩ := hr.some_of
  obtain ⟨a', c', x1, x2, x3⟩ := hr.get 0 rfl
  simp (disch := omega) only [push_cast, Nat.reduceEqDiff]
  refine ldF Shp.eq (x2.sub 1 [.bool g.nl] rfl) (out_of (fun p hp => Nat.lt_of_lt_of_le (Nat.lt_of_lt_of_le x1 hlo) (hL _ _ _ p hp))) ?_
  simp (disch := omega) only [push_cast, Nat.reduceEqDiff]
  repeat' (first | ((first | refine guardX_t rfl (fun h => ?_) (fun h => ?_) | refine guardX_f rfl (fun h => ?_) (fun h => ?_) | refine condX_d (fun h => ?_) (fun h => ?_) | (refine guardX_bt rfl (fun h => ?_) (fun h => ?_) <;> (try subst h)) | (refine guardX_bf rfl (fun h => ?_) (fun h => ?_) <;> (try subst h)) | (refine condX_b (fun h => ?_) (fun h => ?_) <;> (try subst h)) | refine ldOne Shp.eq (by (first | exact mem0 | exact mem1 | exact mem2 | exact mem3 | exact mem4 | exact mem5)) rfl ?_ | refine loadX_agg Shp.eq (by (first | exact mem0 | exact mem1 | exact mem2 | exact mem3 | exact mem4 | exact mem5)) rfl rfl ?_ | refine newI (fun b hb hn => ?_) | refine storeX 0 rfl Siz.eq rfl rfl (by simp [Value.oneCell']) (by simp) ?_ | refine storeX 1 rfl Siz.eq rfl rfl (by simp [Value.oneCell']) (by simp) ?_ | refine storeX 2 rfl Siz.eq rfl rfl (by simp [Value.oneCell']) (by simp) ?_ | refine storeX 3 rfl Siz.eq rfl rfl (by simp [Value.oneCell']) (by simp) ?_ | refine storeX 4 rfl Siz.eq rfl rfl (by simp [Value.oneCell']) (by simp) ?_ | refine storeX 5 rfl Siz.eq rfl rfl (by simp [Value.oneCell']) (by simp) ?_ | refine storeX 6 rfl Siz.eq rfl rfl (by simp [Value.oneCell']) (by simp) ?_) <;> simp (disch := omega) only [push_cast, Nat.reduceEqDiff]) | (first | rw [V_cond] | rw [V_block]) <;> (try simp (disch := omega) only [push_cast, Nat.reduceEqDiff]))
  refine finIs (hL _ _ _) (hval _ ?_)
  simp_all [holdR, Fld.nl, subNl]
theorem mayBe_walk (w : World) (lo : Nat) (hlo : lo ≤ w.heap.size) (f : Fld) (a : Option Addr) (c : Nat) (hf : Rd w lo a f.sub) (hfc : f.sub.length ≤ c) (hc2 : c ≤ 9223372036854775807) (hfn : f.nm.length ≤ 9223372036854775807) :
    Calls Tryd.prog 48 #[.agg #[str f.nm, .bool f.nl, i64 f.k, i64 f.wd, i64 f.id, i64 f.ix, .slice a f.sub.length c]] w (Rets w (Is (.bool (mayP [f] [])))) := by
  refine enterT (args := [.agg #[str f.nm, .bool f.nl, i64 f.k, i64 f.wd, i64 f.id, i64 f.ix, .slice a f.sub.length c]]) Tryd.func48 rfl Tryd.ntmps48 (congrArg Array.toList Tryd.results48) (by kernel_rfl) (by simp) (Sy.refl w) ?_
  simp (disch := omega) only [push_cast, Nat.reduceEqDiff]
  refine newI (fun b1 hb1 hn1 => ?_)
  have hL : ∀ p ∈ [(b1, Obj.cells #[str f.nm, .bool f.nl, i64 f.k, i64 f.wd, i64 f.id, i64 f.ix, .slice a f.sub.length c] 38 (0, 0))], w.heap.size ≤ p.1 := fun p hp => by rw [List.mem_singleton.1 hp]; exact hb1
  simp (disch := omega) only [push_cast, Nat.reduceEqDiff]
  repeat' (first | ((first | refine guardX_t rfl (fun h => ?_) (fun h => ?_) | refine guardX_f rfl (fun h => ?_) (fun h => ?_) | refine condX_d (fun h => ?_) (fun h => ?_) | (refine guardX_bt rfl (fun h => ?_) (fun h => ?_) <;> (try subst h)) | (refine guardX_bf rfl (fun h => ?_) (fun h => ?_) <;> (try subst h)) | (refine condX_b (fun h => ?_) (fun h => ?_) <;> (try subst h)) | refine ldOne Shp.eq (by (first | exact mem0 | exact mem1 | exact mem2 | exact mem3 | exact mem4 | exact mem5)) rfl ?_ | refine loadX_agg Shp.eq (by (first | exact mem0 | exact mem1 | exact mem2 | exact mem3 | exact mem4 | exact mem5)) rfl rfl ?_ | refine newI (fun b hb hn => ?_) | refine storeX 0 rfl Siz.eq rfl rfl (by simp [Value.oneCell']) (by simp) ?_ | refine storeX 1 rfl Siz.eq rfl rfl (by simp [Value.oneCell']) (by simp) ?_ | refine storeX 2 rfl Siz.eq rfl rfl (by simp [Value.oneCell']) (by simp) ?_ | refine storeX 3 rfl Siz.eq rfl rfl (by simp [Value.oneCell']) (by simp) ?_ | refine storeX 4 rfl Siz.eq rfl rfl (by simp [Value.oneCell']) (by simp) ?_ | refine storeX 5 rfl Siz.eq rfl rfl (by simp [Value.oneCell']) (by simp) ?_ | refine storeX 6 rfl Siz.eq rfl rfl (by simp [Value.oneCell']) (by simp) ?_) <;> simp (disch := omega) only [push_cast, Nat.reduceEqDiff]))
  refine callV en_66 (callX_newR (fun w' hw' => checkFieldR_walk w' lo (Nat.le_trans hlo hw'.size) f a c (hf.sy hlo hw' (fun p hp => Nat.le_trans hlo (hL p hp))) hfc hc2 hfn) (fun v M hM hMn hS => ?_))
  obtain ⟨pa, pc, rfl, _⟩ := hS
  simp (disch := omega) only [push_cast, Nat.reduceEqDiff]
  refine finIs (fun p hp => ?_) (congrArg Value.bool ?_)
  · rcases List.mem_cons.1 hp with rfl | hp
    · exact hb1
    · exact hM p hp
  · unfold mayP
    rw [Bool.eq_iff_iff]
    simp
theorem typeMayBe_walk (w : World) (lo : Nat) (hlo : lo ≤ w.heap.size) (f : Fld) (a : Option Addr) (c : Nat) (hT : TyAt w lo f a c) :
    Calls Tryd.prog 50 #[tyV f a c] w (Rets w (Is (.bool (mayT f)))) := by
  refine enterT (args := [tyV f a c]) Tryd.func50 rfl Tryd.ntmps50 (congrArg Array.toList Tryd.results50) (by kernel_rfl) (by simp) (Sy.refl w) ?_
  simp (disch := omega) only [push_cast, Nat.reduceEqDiff, Fld.tcells]
  refine newI (fun b1 hb1 hn1 => ?_)
  simp (disch := omega) only [push_cast, Nat.reduceEqDiff, Fld.tcells]
  refine loadX_agg Shp.eq mem0 rfl rfl ?_
  simp (disch := omega) only [push_cast, Nat.reduceEqDiff]
  have hL : ∀ x : Obj, ∀ p ∈ [(b1, x)], w.heap.size ≤ p.1 := fun x p hp => by rw [List.mem_singleton.1 hp]; exact hb1
  refine callV en_51 (callX_is (fun w' hw' => holderR_walk w' lo (Nat.le_trans hlo hw'.size) f a c (hT.sy hlo hw' (hL _))) ?_)
  simp (disch := omega) only [push_cast, Nat.reduceEqDiff, Fld.cells]
  refine callV en_48 (callX_is (fun w' hw' => mayBe_walk w' lo (Nat.le_trans hlo hw'.size) (holdR f) a c (hT.sy hlo hw' (hL _)).hr hT.hc hT.hc2 (by simp [holdR, Fld.nm])) ?_)
  simp (disch := omega) only [push_cast, Nat.reduceEqDiff]
  exact finIs (hL _) (by rw [hold_may])
def numW (k : Int) : Int := if k = 3 ∨ k = 7 then 1 else if k = 4 ∨ k = 8 then 2 else if k = 5 ∨ k = 9 then 4 else if k = 6 ∨ k = 10 ∨ k = 11 then 8 else 0
theorem numberWidth_walk (w : World) (k : Int) : Calls Tryd.prog 52 #[i64 k] w (Rets w (Is (i64 (numW k)))) := by
  refine enterT (args := [i64 k]) Tryd.func52 rfl Tryd.ntmps52 (congrArg Array.toList Tryd.results52) (by kernel_rfl) (by simp) (Sy.refl w) ?_
  simp (disch := omega) only [push_cast, Nat.reduceEqDiff]
  repeat' (first | (exfalso; omega) | (refine condX_d (fun h => ?_) (fun h => ?_) <;> simp (disch := omega) only [push_cast, Nat.reduceEqDiff]) | ((first | rw [V_cond] | rw [V_block]) <;> (try simp (disch := omega) only [push_cast, Nat.reduceEqDiff])))
  all_goals refine finIs (by simp) (i64_eq ?_)
  all_goals unfold numW
  all_goals (repeat' split) <;> omega
end Go.Proofs.YtgbafmjgfbgeoaaDoor
/- YtgbafmjgfbgeoaaDoor: walks, part 72: the reference's: how wide a row is, how many buffers, children and dictionaries, the parts of an array. -/
namespace Go.Proofs.YtgbafmjgfbgeoaaDoor
open Go Go.K
set_option maxRecDepth 100000
set_option linter.unusedVariables false
set_option linter.unusedSimpArgs false
set_option maxHeartbeats 1000000
def widthR (f : Fld) : Int := if mayT f then (if f.k = 14 then f.wd else if f.k = 19 then numW f.ix else numW f.k) else 0
theorem numW_says (i : Nat) (h : 1 ≤ i ∧ i ≤ 20) : numW (i : Int) = saysWidth i := by
  have h1 : ∀ i : Nat, i < 21 → 1 ≤ i → numW (i : Int) = saysWidth i := by decide
  exact h1 i (by omega) h.1
theorem width_law (f : Fld) : widthR f = widthP f := by
  unfold widthR widthP
  cases hm : mayT f with
  | false => rfl
  | true =>
    obtain ⟨hk, hx⟩ := may_kinds hm
    simp only [if_true]
    split
    · rfl
    split
    · rename_i h19
      have := hx h19
      rw [← numW_says f.ix.toNat (by omega), Int.toNat_of_nonneg (by omega)]
    · rw [← numW_says f.k.toNat (by omega), Int.toNat_of_nonneg (by omega)]
theorem widthR_walk (w : World) (lo : Nat) (hlo : lo ≤ w.heap.size) (f : Fld) (a : Option Addr) (c : Nat) (hT : TyAt w lo f a c) :
    Calls Tryd.prog 27 #[tyV f a c] w (Rets w (Is (i64 (widthR f)))) := by
  refine enterT (args := [tyV f a c]) Tryd.func27 rfl Tryd.ntmps27 (congrArg Array.toList Tryd.results27) (by kernel_rfl) (by simp) (Sy.refl w) ?_
  simp (disch := omega) only [push_cast, Nat.reduceEqDiff, Fld.tcells]
  refine newI (fun b1 hb1 hn1 => ?_)
  simp (disch := omega) only [push_cast, Nat.reduceEqDiff, Fld.tcells]
  refine loadX_agg Shp.eq mem0 rfl rfl ?_
  simp (disch := omega) only [push_cast, Nat.reduceEqDiff]
  have hL : ∀ x : Obj, ∀ p ∈ [(b1, x)], w.heap.size ≤ p.1 := fun x p hp => by rw [List.mem_singleton.1 hp]; exact hb1
  refine callV en_50 (callX_is (fun w' hw' => typeMayBe_walk w' lo (Nat.le_trans hlo hw'.size) f a c (hT.sy hlo hw' (hL _))) ?_)
  simp (disch := omega) only [push_cast, Nat.reduceEqDiff]
  rcases hm : mayT f with _ | _
  · simp only [Bool.not_false]
    rw [V_cond]
    simp (disch := omega) only [push_cast, Nat.reduceEqDiff]
    exact finIs (hL _) (by simp [widthR, hm])
  simp only [Bool.not_true]
  rw [V_cond]
  simp (disch := omega) only [push_cast, Nat.reduceEqDiff]
  repeat' (first | ((first | refine guardX_t rfl (fun h => ?_) (fun h => ?_) | refine guardX_f rfl (fun h => ?_) (fun h => ?_) | refine condX_d (fun h => ?_) (fun h => ?_) | (refine guardX_bt rfl (fun h => ?_) (fun h => ?_) <;> (try subst h)) | (refine guardX_bf rfl (fun h => ?_) (fun h => ?_) <;> (try subst h)) | (refine condX_b (fun h => ?_) (fun h => ?_) <;> (try subst h)) | refine ldOne Shp.eq (by (first | exact mem0 | exact mem1 | exact mem2 | exact mem3 | exact mem4 | exact mem5)) rfl ?_ | refine loadX_agg Shp.eq (by (first | exact mem0 | exact mem1 | exact mem2 | exact mem3 | exact mem4 | exact mem5)) rfl rfl ?_ | refine newI (fun b hb hn => ?_) | refine storeX 0 rfl Siz.eq rfl rfl (by simp [Value.oneCell']) (by simp) ?_ | refine storeX 1 rfl Siz.eq rfl rfl (by simp [Value.oneCell']) (by simp) ?_ | refine storeX 2 rfl Siz.eq rfl rfl (by simp [Value.oneCell']) (by simp) ?_ | refine storeX 3 rfl Siz.eq rfl rfl (by simp [Value.oneCell']) (by simp) ?_ | refine storeX 4 rfl Siz.eq rfl rfl (by simp [Value.oneCell']) (by simp) ?_ | refine storeX 5 rfl Siz.eq rfl rfl (by simp [Value.oneCell']) (by simp) ?_ | refine storeX 6 rfl Siz.eq rfl rfl (by simp [Value.oneCell']) (by simp) ?_) <;> simp (disch := omega) only [push_cast, Nat.reduceEqDiff]) | (first | rw [V_cond] | rw [V_block]) <;> (try simp (disch := omega) only [push_cast, Nat.reduceEqDiff]))
  · exact finIs (hL _) (by unfold widthR; rw [if_pos hm, if_pos h])
  · rename_i h14
    refine callV en_52 (callX_is (fun w' hw' => numberWidth_walk w' f.ix) ?_)
    simp (disch := omega) only [push_cast, Nat.reduceEqDiff]
    exact finIs (hL _) (by unfold widthR; rw [if_pos hm, if_neg h14, if_pos h])
  · rename_i h14
    refine callV en_52 (callX_is (fun w' hw' => numberWidth_walk w' f.k) ?_)
    simp (disch := omega) only [push_cast, Nat.reduceEqDiff]
    exact finIs (hL _) (by unfold widthR; rw [if_pos hm, if_neg h14, if_neg h])
def shapeR (f : Fld) : Int × Int × Int := if mayT f then (if f.k = 1 then (0, 0, 0) else if f.k = 12 ∨ f.k = 13 then (3, 0, 0) else if f.k = 15 then (2, 1, 0) else if f.k = 16 ∨ f.k = 17 then (1, (f.sub.length : Int), 0) else if f.k = 18 then (2, (f.sub.length : Int), 0) else if f.k = 19 then (2, 0, 1) else if f.k = 20 then (0, 2, 0) else (2, 0, 0)) else (-1, -1, -1)
theorem shape_law (f : Fld) : shapeR f = shapeP f := by
  unfold shapeR shapeP
  cases hm : mayT f with
  | false => rfl
  | true =>
    obtain ⟨hk, hx⟩ := may_kinds hm
    obtain ⟨_, _, _, h4, h5⟩ := mayT_shaped hm
    have hkk : f.k = 1 ∨ f.k = 2 ∨ f.k = 3 ∨ f.k = 4 ∨ f.k = 5 ∨ f.k = 6 ∨ f.k = 7 ∨ f.k = 8 ∨ f.k = 9 ∨ f.k = 10 ∨ f.k = 11 ∨ f.k = 12 ∨ f.k = 13 ∨ f.k = 14 ∨ f.k = 15 ∨ f.k = 16 ∨ f.k = 17 ∨ f.k = 18 ∨ f.k = 19 ∨ f.k = 20 := by omega
    simp only [partsP, hm, true_and]
    rcases hkk with h | h | h | h | h | h | h | h | h | h | h | h | h | h | h | h | h | h | h | h
    all_goals rw [h] at h4 h5 ⊢
    all_goals simp [leastK, mostK] at h4 h5
    all_goals simp [saysBufs]
    all_goals (try simp [h5])
    all_goals (try omega)
theorem shapeR_walk (w : World) (lo : Nat) (hlo : lo ≤ w.heap.size) (f : Fld) (a : Option Addr) (c : Nat) (hT : TyAt w lo f a c) :
    Calls Tryd.prog 24 #[tyV f a c] w (Rets w (Is (.tuple #[i64 (shapeR f).1, i64 (shapeR f).2.1, i64 (shapeR f).2.2]))) := by
  refine enterT (args := [tyV f a c]) Tryd.func24 rfl Tryd.ntmps24 (congrArg Array.toList Tryd.results24) (by kernel_rfl) (by simp) (Sy.refl w) ?_
  simp (disch := omega) only [push_cast, Nat.reduceEqDiff, Fld.tcells]
  refine newI (fun b1 hb1 hn1 => ?_)
  simp (disch := omega) only [push_cast, Nat.reduceEqDiff, Fld.tcells]
  refine loadX_agg Shp.eq mem0 rfl rfl ?_
  simp (disch := omega) only [push_cast, Nat.reduceEqDiff]
  have hL : ∀ x : Obj, ∀ p ∈ [(b1, x)], w.heap.size ≤ p.1 := fun x p hp => by rw [List.mem_singleton.1 hp]; exact hb1
  refine callV en_50 (callX_is (fun w' hw' => typeMayBe_walk w' lo (Nat.le_trans hlo hw'.size) f a c (hT.sy hlo hw' (hL _))) ?_)
  simp (disch := omega) only [push_cast, Nat.reduceEqDiff]
  rcases hm : mayT f with _ | _
  · simp only [Bool.not_false]
    rw [V_cond]
    simp (disch := omega) only [push_cast, Nat.reduceEqDiff]
    exact finIs (hL _) (by simp [shapeR, hm])
  have hr : ∀ x y z : Int, (x, y, z) = shapeR f → Value.tuple #[i64 x, i64 y, i64 z] = .tuple #[i64 (shapeR f).1, i64 (shapeR f).2.1, i64 (shapeR f).2.2] := fun x y z h => by rw [← h]
  simp only [Bool.not_true]
  rw [V_cond]
  simp (disch := omega) only [push_cast, Nat.reduceEqDiff]
  refine ldOne Shp.eq mem0 rfl ?_
  simp (disch := omega) only [push_cast, Nat.reduceEqDiff]
  repeat' (first | (exfalso; omega) | (refine condX_d (fun h => ?_) (fun h => ?_) <;> simp (disch := omega) only [push_cast, Nat.reduceEqDiff]) | ((first | rw [V_cond] | rw [V_block]) <;> (try simp (disch := omega) only [push_cast, Nat.reduceEqDiff])))
  all_goals (try (refine drawQT (by kernel_rfl) (by kernel_rfl) mixed (by kernel_rfl) ?_; simp (disch := omega) only [push_cast, Nat.reduceEqDiff]; refine ldOne Shp.eq mem0 rfl ?_; simp (disch := omega) only [push_cast, Nat.reduceEqDiff]))
  all_goals refine finIs (hL _) (hr _ _ _ ?_)
  all_goals unfold shapeR
  all_goals rw [if_pos hm]
  all_goals (repeat' (first | rw [if_pos (by omega)] | rw [if_neg (by omega)]))
theorem ends_walk (w : World) : Calls Tryd.prog 53 #[] w (Rets w (Is (.agg (endsF.cells none 0).toArray))) := by
  refine enterT (args := []) Tryd.func53 rfl Tryd.ntmps53 (congrArg Array.toList Tryd.results53) (by kernel_rfl) (by simp) (Sy.refl w) ?_
  simp (disch := omega) only [push_cast, Nat.reduceEqDiff]
  repeat' (first | ((first | refine guardX_t rfl (fun h => ?_) (fun h => ?_) | refine guardX_f rfl (fun h => ?_) (fun h => ?_) | refine condX_d (fun h => ?_) (fun h => ?_) | (refine guardX_bt rfl (fun h => ?_) (fun h => ?_) <;> (try subst h)) | (refine guardX_bf rfl (fun h => ?_) (fun h => ?_) <;> (try subst h)) | (refine condX_b (fun h => ?_) (fun h => ?_) <;> (try subst h)) | refine ldOne Shp.eq (by (first | exact mem0 | exact mem1 | exact mem2 | exact mem3 | exact mem4 | exact mem5)) rfl ?_ | refine loadX_agg Shp.eq (by (first | exact mem0 | exact mem1 | exact mem2 | exact mem3 | exact mem4 | exact mem5)) rfl rfl ?_ | refine newI (fun b hb hn => ?_) | refine storeX 0 rfl Siz.eq rfl rfl (by simp [Value.oneCell']) (by simp) ?_ | refine storeX 1 rfl Siz.eq rfl rfl (by simp [Value.oneCell']) (by simp) ?_ | refine storeX 2 rfl Siz.eq rfl rfl (by simp [Value.oneCell']) (by simp) ?_ | refine storeX 3 rfl Siz.eq rfl rfl (by simp [Value.oneCell']) (by simp) ?_ | refine storeX 4 rfl Siz.eq rfl rfl (by simp [Value.oneCell']) (by simp) ?_ | refine storeX 5 rfl Siz.eq rfl rfl (by simp [Value.oneCell']) (by simp) ?_ | refine storeX 6 rfl Siz.eq rfl rfl (by simp [Value.oneCell']) (by simp) ?_) <;> simp (disch := omega) only [push_cast, Nat.reduceEqDiff]) | (first | rw [V_cond] | rw [V_block]) <;> (try simp (disch := omega) only [push_cast, Nat.reduceEqDiff]))
  exact finIs (by simp only [List.mem_singleton]; rintro p rfl; assumption) rfl
/-- A list that lies below lo or in these blocks. -/
def PartS (w : World) (lo : Nat) (v : Value) (M : Own) (l : List Fld) : Prop := ∃ a c, v = .slice a l.length c ∧ l.length ≤ c ∧ ∀ w', (∀ k, k < lo → w'.heap[k]? = w.heap[k]?) → lo ≤ w'.heap.size → Held w' M → Rd w' w'.heap.size a l
theorem partsR_walk (w : World) (lo : Nat) (hlo : lo ≤ w.heap.size) (f : Fld) (a : Option Addr) (c : Nat) (hT : TyAt w lo f a c) :
    Calls Tryd.prog 29 #[tyV f a c] w (RetsN w (fun v M => PartS w lo v M (partsP f))) := by
  refine enterB (args := [tyV f a c]) Tryd.func29 rfl Tryd.ntmps29 (congrArg Array.toList Tryd.results29) (by kernel_rfl) (by simp) (Sy.refl w) ?_
  simp (disch := omega) only [push_cast, Nat.reduceEqDiff, Fld.tcells]
  refine newI (fun b1 hb1 hn1 => ?_)
  simp (disch := omega) only [push_cast, Nat.reduceEqDiff, Fld.tcells]
  refine loadX_agg Shp.eq mem0 rfl rfl ?_
  simp (disch := omega) only [push_cast, Nat.reduceEqDiff]
  have hL : ∀ x : Obj, ∀ p ∈ [(b1, x)], w.heap.size ≤ p.1 := fun x p hp => by rw [List.mem_singleton.1 hp]; exact hb1
  have hnil : ∀ v, partsP f = [] → v = .slice none 0 0 → ∀ x w', Sy w [(b1, x)] w' → RetsN w (fun v M => PartS w lo v M (partsP f)) (.returned v) w' := fun v hp hv x w' hw' => by
    subst hv
    rw [hp]
    exact ⟨_, [], rfl, hw'.end (hL x), by simp, none, 0, rfl, by simp, fun w' _ _ _ => .nil _⟩
  refine callV en_50 (callX_is (fun w' hw' => typeMayBe_walk w' lo (Nat.le_trans hlo hw'.size) f a c (hT.sy hlo hw' (hL _))) ?_)
  simp (disch := omega) only [push_cast, Nat.reduceEqDiff]
  rcases hm : mayT f with _ | _
  · simp only [Bool.not_false]
    simp (disch := omega) only [push_cast, Nat.reduceEqDiff]
    repeat' (first | ((first | refine guardX_t rfl (fun h => ?_) (fun h => ?_) | refine guardX_f rfl (fun h => ?_) (fun h => ?_) | refine condX_d (fun h => ?_) (fun h => ?_) | (refine guardX_bt rfl (fun h => ?_) (fun h => ?_) <;> (try subst h)) | (refine guardX_bf rfl (fun h => ?_) (fun h => ?_) <;> (try subst h)) | (refine condX_b (fun h => ?_) (fun h => ?_) <;> (try subst h)) | refine ldOne Shp.eq (by (first | exact mem0 | exact mem1 | exact mem2 | exact mem3 | exact mem4 | exact mem5)) rfl ?_ | refine loadX_agg Shp.eq (by (first | exact mem0 | exact mem1 | exact mem2 | exact mem3 | exact mem4 | exact mem5)) rfl rfl ?_ | refine newI (fun b hb hn => ?_) | refine storeX 0 rfl Siz.eq rfl rfl (by simp [Value.oneCell']) (by simp) ?_ | refine storeX 1 rfl Siz.eq rfl rfl (by simp [Value.oneCell']) (by simp) ?_ | refine storeX 2 rfl Siz.eq rfl rfl (by simp [Value.oneCell']) (by simp) ?_ | refine storeX 3 rfl Siz.eq rfl rfl (by simp [Value.oneCell']) (by simp) ?_ | refine storeX 4 rfl Siz.eq rfl rfl (by simp [Value.oneCell']) (by simp) ?_ | refine storeX 5 rfl Siz.eq rfl rfl (by simp [Value.oneCell']) (by simp) ?_ | refine storeX 6 rfl Siz.eq rfl rfl (by simp [Value.oneCell']) (by simp) ?_) <;> simp (disch := omega) only [push_cast, Nat.reduceEqDiff]) | (first | rw [V_cond] | rw [V_block]) <;> (try simp (disch := omega) only [push_cast, Nat.reduceEqDiff]))
    exact fun w' hw' => hnil _ (by simp [partsP, hm]) rfl _ w' hw'
  obtain ⟨hk, hx⟩ := may_kinds hm
  simp only [Bool.not_true]
  simp (disch := omega) only [push_cast, Nat.reduceEqDiff]
  refine ldOne Shp.eq mem0 rfl ?_
  simp (disch := omega) only [push_cast, Nat.reduceEqDiff]
  rw [V_cond]
  simp (disch := omega) only [push_cast, Nat.reduceEqDiff]
  refine condX_d (fun h19 => ?_) (fun h19 => ?_)
  · simp (disch := omega) only [push_cast, Nat.reduceEqDiff]
    exact fun w' hw' => hnil _ (by simp [partsP, h19]) rfl _ w' hw'
  simp (disch := omega) only [push_cast, Nat.reduceEqDiff]
  refine ldOne Shp.eq mem0 rfl ?_
  simp (disch := omega) only [push_cast, Nat.reduceEqDiff]
  rw [V_cond]
  simp (disch := omega) only [push_cast, Nat.reduceEqDiff]
  refine condX_d (fun h20 => ?_) (fun h20 => ?_)
  rotate_left
  · simp (disch := omega) only [push_cast, Nat.reduceEqDiff]
    refine ldOne Shp.eq mem0 rfl ?_
    simp (disch := omega) only [push_cast, Nat.reduceEqDiff]
    have hp : partsP f = f.sub := by simp [partsP, hm, h19, h20]
    rw [hp]
    exact fun w' hw' => ⟨_, [], rfl, hw'.end (hL _), by simp, a, c, rfl, hT.hc, fun w' h1 h2 _ => (hT.hr.mono h1).weaken h2⟩
  have hp : partsP f = endsF :: f.sub := by simp [partsP, hm, h20]
  rw [hp]
  have h1l := runs_one (mayT_shaped hm) h20
  have hpos : 0 < f.sub.length := by omega
  obtain ⟨g, l, hl⟩ : ∃ g l, f.sub = g :: l := List.exists_cons_of_ne_nil (fun h0 => by rw [h0] at h1l; simp at h1l)
  obtain rfl : l = [] := by
    rw [hl] at h1l
    exact List.eq_nil_of_length_eq_zero (by simpa using h1l)
  have hr := hT.hr
  rw [hl] at hr
  obtain ⟨b', off, rfl, hb'⟩ := hr.some_of
  obtain ⟨a', c', x1, x2, x3, x4, x5, x6⟩ := hr.get 0 rfl
  simp (disch := omega) only [push_cast, Nat.reduceEqDiff]
  refine freeT [1, 2, 3, 4] [0, 5, 6] [(b1, Obj.cells #[i64 f.k, i64 f.wd, i64 f.id, i64 f.ix, .slice (some ⟨b', off, none⟩) f.sub.length c] 36 (0, 0))] (by kernel_rfl) mixed (by kernel_rfl) (fun w hw => hw) ?_
  simp (disch := omega) only [push_cast, Nat.reduceEqDiff]
  refine ldOne Shp.eq mem0 rfl ?_
  simp (disch := omega) only [push_cast, Nat.reduceEqDiff]
  refine ldAggF Shp.eq x2 rfl (out_of (fun p hp => Nat.lt_of_lt_of_le (Nat.lt_of_lt_of_le x1 hlo) (hL _ p hp))) ?_
  simp (disch := omega) only [push_cast, Nat.reduceEqDiff, Fld.cells]
  refine callV en_53 (callX_is (fun w' hw' => ends_walk w') ?_)
  simp (disch := omega) only [push_cast, Nat.reduceEqDiff, Fld.cells]
  refine ⟨fun w hw => hw, bs_22_2 (newI fun b9 hb9 hn9 => ?_)⟩
  simp (disch := omega) only [push_cast, Nat.reduceEqDiff]
  have hL9 : ∀ x y : Obj, ∀ p ∈ [(b9, x), (b1, y)], w.heap.size ≤ p.1 := fun x y p hp => by
    simp only [List.mem_cons, List.mem_nil_iff, or_false] at hp
    rcases hp with rfl | rfl <;> assumption
  refine ⟨fun w hw => hw.drop (List.sublist_cons_self _ _) (fun p hp => .inr (hL9 _ _ p hp)), ?_⟩
  refine ⟨fun w hw => hw.drop (List.sublist_cons_self _ _) (fun p hp => .inr (hL9 _ _ p hp)), ?_⟩
  refine fun w' hw' => ⟨_, [(b9, Obj.cells (endsF.cells none 0 ++ g.cells a' c').toArray 38 (0, 0))], rfl, hw'.drop (.cons_cons _ (List.nil_sublist _)) (fun p hp => .inr (hL9 _ _ p hp)), fun p hp => by rw [List.mem_singleton.1 hp]; exact hb9, some ⟨b9, 0, none⟩, 2, ?_, ?_, fun w2 h1 h2 h3 => ?_⟩
  · rw [hl]; rfl
  · rw [hl]; simp
  · have hb := h3 _ (.head _)
    have hlt : b9 < w2.heap.size := (Array.getElem?_eq_some_iff.1 hb).1
    rw [hl]
    exact .cons hlt (by simp [endsF, Fld.sub]) (by simp [endsF, Fld.nm]) (by omega) ⟨_, _, _, hb, rfl⟩ (.nil _) (.cons hlt x3 x4 x5 ⟨_, _, _, hb, rfl⟩ ((x6.mono h1).weaken h2) (.nil _))
end Go.Proofs.YtgbafmjgfbgeoaaDoor
/- YtgbafmjgfbgeoaaDoor: walks, part 73: the reference's: how deep a type is; are two fields alike? -/
namespace Go.Proofs.YtgbafmjgfbgeoaaDoor
open Go Go.K
set_option maxRecDepth 100000
set_option linter.unusedVariables false
set_option linter.unusedSimpArgs false
set_option maxHeartbeats 1000000
/-- All nodes of a list, as a new row. -/
theorem growNew_walk (w : World) (lo : Nat) (hlo : lo ≤ w.heap.size) (l : List Fld) (a : Option Addr) (c : Nat) (hr : Rd w lo a l) (hc : l.length ≤ c) (hc2 : c ≤ 9223372036854775807) :
    Calls Tryd.prog 36 #[.slice a l.length c, .slice none 0 0, .bool false, .slice none 0 0] w (RetsN w (fun v M => ∃ w1 lo1 A xs, RowO w1 41 10 M A v ((nd 65 [] false l).take 257).length xs ∧ NodesC w1 lo1 A ((nd 65 [] false l).take 257) xs)) := by
  refine (grow_ok 64 w w [] [] [] lo (.slice none 0 0) [] [] [] (.slice none 0 0) l a c false (Sy.refl w) hlo (by simp) ⟨rfl, .inl ⟨rfl, rfl, rfl⟩⟩ rfl (by simp) ⟨rfl, .inl ⟨rfl, rfl⟩⟩ rfl hr hc hc2).mono ?_
  rintro e w' ⟨v', L', rfl, hw', A', xs', h1, h2, h3, h4⟩
  rw [List.append_nil] at h1
  rw [List.nil_append] at h1 h2
  exact ⟨v', L', rfl, hw', h1.new h3, w, lo, A', xs', h1, h2⟩
theorem NodesC.cells {wb : World} {lo : Nat} {A : Own} {ns : List FNode} {xs cs : List Value} (hno : NodesC wb lo A ns xs) (hcs : cs.take (ns.length * 10) = xs) {i : Nat} {x : FNode} (hx : ns[i]? = some x) :
    ∃ pb fa fc aa ac, (cs.drop (i * 10)).take 10 = [.slice (some ⟨pb, 0, none⟩) x.path.length x.path.length, str x.f.nm, .bool x.f.nl, i64 x.f.k, i64 x.f.wd, i64 x.f.id, i64 x.f.ix, .slice fa x.f.sub.length fc, .slice aa x.ah.length ac, .bool x.ind] ∧ x.path.length ≤ 65 := by
  have hil := (List.getElem?_eq_some_iff.1 hx).1
  obtain ⟨ci, hci, htk⟩ := hno.get i hx
  obtain ⟨pb, fa, aa, fc, ac, rfl, hpm, hpb, hp65, _⟩ := hci
  rw [← hcs, take_sub _ _ _ _ (by omega)] at htk
  exact ⟨pb, fa, fc, aa, ac, htk, hp65⟩
structure DpI (w0 : World) (ns : List FNode) (va : Option Addr) (vc : Nat) (L0 : Own) (i : Nat) (wb : World) (e : Env) (ds : List Deferred) (L : Own) : Prop where
  hw : wb = w0
  hds : ds = []
  o : L = L0
  il : i ≤ ns.length
  h3 : e 3 = i64 (dmax (ns.take i) : Nat)
  h12 : e 12 = .slice va ns.length vc
  h13 : e 13 = i64 ns.length
  h14 : e 14 = i64 i
theorem depthR_walk (w : World) (lo : Nat) (hlo : lo ≤ w.heap.size) (f : Fld) (a : Option Addr) (c : Nat) (hT : TyAt w lo f a c) :
    Calls Tryd.prog 25 #[tyV f a c] w (Rets w (Is (i64 (depthR f)))) := by
  refine enterT (args := [tyV f a c]) Tryd.func25 rfl Tryd.ntmps25 (congrArg Array.toList Tryd.results25) (by kernel_rfl) (by simp) (Sy.refl w) ?_
  simp (disch := omega) only [push_cast, Nat.reduceEqDiff, Fld.tcells]
  refine newI (fun b1 hb1 hn1 => ?_)
  simp (disch := omega) only [push_cast, Nat.reduceEqDiff, Fld.tcells]
  refine loadX_agg Shp.eq mem0 rfl rfl ?_
  simp (disch := omega) only [push_cast, Nat.reduceEqDiff]
  have hL : ∀ x : Obj, ∀ p ∈ [(b1, x)], w.heap.size ≤ p.1 := fun x p hp => by rw [List.mem_singleton.1 hp]; exact hb1
  refine callV en_50 (callX_is (fun w' hw' => typeMayBe_walk w' lo (Nat.le_trans hlo hw'.size) f a c (hT.sy hlo hw' (hL _))) ?_)
  simp (disch := omega) only [push_cast, Nat.reduceEqDiff]
  rcases hm : mayT f with _ | _
  · simp only [Bool.not_false]
    rw [V_cond]
    simp (disch := omega) only [push_cast, Nat.reduceEqDiff]
    exact finIs (hL _) (by simp [depthR, hm])
  simp only [Bool.not_true]
  rw [V_cond]
  simp (disch := omega) only [push_cast, Nat.reduceEqDiff]
  refine loadX_agg Shp.eq mem0 rfl rfl ?_
  simp (disch := omega) only [push_cast, Nat.reduceEqDiff]
  refine callV en_51 (callX_is (fun w' hw' => holderR_walk w' lo (Nat.le_trans hlo hw'.size) f a c (hT.sy hlo hw' (hL _))) ?_)
  simp (disch := omega) only [push_cast, Nat.reduceEqDiff, Fld.cells]
  refine bs_22_1 (newI fun b9 hb9 hn9 => ?_)
  simp (disch := omega) only [push_cast, Nat.reduceEqDiff]
  have hL9 : ∀ x y : Obj, ∀ p ∈ [(b9, x), (b1, y)], w.heap.size ≤ p.1 := fun x y p hp => by
    simp only [List.mem_cons, List.mem_nil_iff, or_false] at hp
    rcases hp with rfl | rfl <;> assumption
  refine callV en_36 (callX_new (fun w' hw' => growNew_walk w' w'.heap.size (Nat.le_refl _) [holdR f] (some ⟨b9, 0, none⟩) 1 (.cons (hw'.lt (.head _)) hT.hc (by simp [holdR, Fld.nm]) hT.hc2 (At.of_own hw' (.head _) rfl) ((hT.sy hlo hw' (hL9 _ _)).hr.weaken (Nat.le_trans hlo hw'.size)) (.nil _)) (by simp) (by omega)) (fun v M hM hMn hS => ?_))
  obtain ⟨w1, lo1, A, xs, hro, hno⟩ := hS
  generalize hns : (nd 65 [] false [holdR f]).take 257 = ns at hro hno
  have hnl : ns.length ≤ 257 := by rw [← hns]; exact List.length_take_le _ _
  have hdr : depthR f = (dmax ns : Nat) := by unfold depthR; rw [if_pos hm, hns]
  rw [hdr]
  obtain ⟨va, vc, rfl⟩ := hro.is_slice
  have hLM : ∀ x y : Obj, ∀ p ∈ M ++ [(b9, x), (b1, y)], w.heap.size ≤ p.1 := fun x y p hp => by
    rcases List.mem_append.1 hp with hp | hp
    · exact hM p hp
    · exact hL9 x y p hp
  simp (disch := omega) only [push_cast, Nat.reduceEqDiff]
  rw [V_block]
  simp (disch := omega) only [push_cast, Nat.reduceEqDiff]
  refine loopW (G := Nat) (DpI w ns va vc _) (fun i => ns.length - i) 0 _ (fun w hw => hw) (by kernel_rfl) ⟨rfl, rfl, rfl, by omega, rfl, rfl, rfl, rfl⟩ ?_
  rintro i wb e ds L ⟨rfl, rfl, rfl, hil, h3, h12, h13, h14⟩
  simp (disch := omega) only [push_cast, Nat.reduceEqDiff, h3, h12, h13, h14]
  rw [V_cond]
  simp (disch := omega) only [push_cast, Nat.reduceEqDiff, h3, h12, h13, h14]
  refine condX_d (fun hlt => ?_) (fun hge => ?_)
  · obtain ⟨x, hx⟩ : ∃ x, ns[i]? = some x := ⟨_, List.getElem?_eq_getElem (by omega)⟩
    obtain ⟨rb, cs, rfl, hmr, hcs, hvc⟩ := row_block (A := A) (M := []) (by rw [List.append_nil]; exact hro) (by omega : 0 < ns.length)
    obtain ⟨pb, fa, fc, aa, ac, hcl, hp65⟩ := hno.cells hcs hx
    have hdm := dmax_take hx
    simp (disch := omega) only [push_cast, Nat.reduceEqDiff, h3, h12, h13, h14]
    rw [V_block]
    simp (disch := omega) only [push_cast, Nat.reduceEqDiff, h3, h12, h13, h14]
    refine loadX_agg Shp.eq (List.mem_append_left _ hmr) (by simpa using hcl) rfl ?_
    simp (disch := omega) only [push_cast, Nat.reduceEqDiff, h3, h12, h13, h14]
    refine newI (fun b5 hb5 hn5 => ?_)
    simp (disch := omega) only [push_cast, Nat.reduceEqDiff, h3, h12, h13, h14]
    refine storeX 0 rfl Siz.eq rfl rfl (by simp [Value.oneCell']) (by simp) ?_
    simp (disch := omega) only [push_cast, Nat.reduceEqDiff, h3, h12, h13, h14]
    repeat' (first | ((first | refine guardX_t rfl (fun h => ?_) (fun h => ?_) | refine guardX_f rfl (fun h => ?_) (fun h => ?_) | refine condX_d (fun h => ?_) (fun h => ?_) | (refine guardX_bt rfl (fun h => ?_) (fun h => ?_) <;> (try subst h)) | (refine guardX_bf rfl (fun h => ?_) (fun h => ?_) <;> (try subst h)) | (refine condX_b (fun h => ?_) (fun h => ?_) <;> (try subst h)) | refine ldOne Shp.eq (by (first | exact mem0 | exact mem1 | exact mem2 | exact mem3 | exact mem4 | exact mem5)) rfl ?_ | refine loadX_agg Shp.eq (by (first | exact mem0 | exact mem1 | exact mem2 | exact mem3 | exact mem4 | exact mem5)) rfl rfl ?_ | refine newI (fun b hb hn => ?_) | refine storeX 0 rfl Siz.eq rfl rfl (by simp [Value.oneCell']) (by simp) ?_ | refine storeX 1 rfl Siz.eq rfl rfl (by simp [Value.oneCell']) (by simp) ?_ | refine storeX 2 rfl Siz.eq rfl rfl (by simp [Value.oneCell']) (by simp) ?_ | refine storeX 3 rfl Siz.eq rfl rfl (by simp [Value.oneCell']) (by simp) ?_ | refine storeX 4 rfl Siz.eq rfl rfl (by simp [Value.oneCell']) (by simp) ?_ | refine storeX 5 rfl Siz.eq rfl rfl (by simp [Value.oneCell']) (by simp) ?_ | refine storeX 6 rfl Siz.eq rfl rfl (by simp [Value.oneCell']) (by simp) ?_) <;> simp (disch := omega) only [push_cast, Nat.reduceEqDiff, h3, h12, h13, h14]) | (first | rw [V_cond] | rw [V_block]) <;> (try simp (disch := omega) only [push_cast, Nat.reduceEqDiff, h3, h12, h13, h14]))
    all_goals refine ⟨i + 1, _, fun w hw => hw.drop (List.sublist_cons_self _ _) (fun p hp => ?_), ⟨rfl, rfl, rfl, by omega, ?_, h12, h13, by simp only [upd]; rfl⟩, by omega⟩
    · rcases List.mem_cons.1 hp with rfl | hp
      · exact .inr hb5
      · exact .inl hp
    · rw [hdm, Nat.max_eq_right (by omega)]; rfl
    · rcases List.mem_cons.1 hp with rfl | hp
      · exact .inr hb5
      · exact .inl hp
    · rw [hdm, Nat.max_eq_left (by omega)]; exact h3
  · obtain rfl : i = ns.length := by omega
    rw [List.take_length] at h3
    simp (disch := omega) only [push_cast, Nat.reduceEqDiff, h3, h12, h13, h14]
    exact finIs (hLM _ _) rfl
theorem alikeFieldsR_walk (w : World) (lo : Nat) (hlo : lo ≤ w.heap.size) (f g : Fld) (a a' : Option Addr) (c c' : Nat) (hr : Rd w lo a f.sub) (hr' : Rd w lo a' g.sub) (hc : f.sub.length ≤ c) (hc' : g.sub.length ≤ c') (hc2 : c ≤ 9223372036854775807) (hc2' : c' ≤ 9223372036854775807) (hfn : f.nm.length ≤ 9223372036854775807) (hgn : g.nm.length ≤ 9223372036854775807) :
    Calls Tryd.prog 20 #[.agg #[str f.nm, .bool f.nl, i64 f.k, i64 f.wd, i64 f.id, i64 f.ix, .slice a f.sub.length c], .agg #[str g.nm, .bool g.nl, i64 g.k, i64 g.wd, i64 g.id, i64 g.ix, .slice a' g.sub.length c']] w (Rets w (Is (.bool (alikeFP f g)))) := by
  refine enterT (args := [.agg #[str f.nm, .bool f.nl, i64 f.k, i64 f.wd, i64 f.id, i64 f.ix, .slice a f.sub.length c], .agg #[str g.nm, .bool g.nl, i64 g.k, i64 g.wd, i64 g.id, i64 g.ix, .slice a' g.sub.length c']]) Tryd.func20 rfl Tryd.ntmps20 (congrArg Array.toList Tryd.results20) (by kernel_rfl) (by simp) (Sy.refl w) ?_
  simp (disch := omega) only [push_cast, Nat.reduceEqDiff]
  refine newI (fun b2 hb2 hn2 => ?_)
  simp (disch := omega) only [push_cast, Nat.reduceEqDiff]
  refine newI (fun b3 hb3 hn3 => ?_)
  have hL : ∀ x y, ∀ p ∈ [(b3, (x : Obj)), (b2, y)], w.heap.size ≤ p.1 := fun x y p hp => by
    simp only [List.mem_cons, List.mem_nil_iff, or_false] at hp
    rcases hp with rfl | rfl <;> assumption
  simp (disch := omega) only [push_cast, Nat.reduceEqDiff]
  refine loadX_agg Shp.eq mem1 rfl rfl ?_
  simp (disch := omega) only [push_cast, Nat.reduceEqDiff]
  refine callV en_48 (callX_is (fun w' hw' => mayBe_walk w' lo (Nat.le_trans hlo hw'.size) f a c (hr.sy hlo hw' (fun p hp => Nat.le_trans hlo (hL _ _ p hp))) hc hc2 hfn) ?_)
  simp (disch := omega) only [push_cast, Nat.reduceEqDiff]
  rcases hm : mayP [f] [] with _ | _
  · simp (disch := omega) only [push_cast, Nat.reduceEqDiff]
    repeat' (first | ((first | refine guardX_t rfl (fun h => ?_) (fun h => ?_) | refine guardX_f rfl (fun h => ?_) (fun h => ?_) | refine condX_d (fun h => ?_) (fun h => ?_) | (refine guardX_bt rfl (fun h => ?_) (fun h => ?_) <;> (try subst h)) | (refine guardX_bf rfl (fun h => ?_) (fun h => ?_) <;> (try subst h)) | (refine condX_b (fun h => ?_) (fun h => ?_) <;> (try subst h)) | refine ldOne Shp.eq (by (first | exact mem0 | exact mem1 | exact mem2 | exact mem3 | exact mem4 | exact mem5)) rfl ?_ | refine loadX_agg Shp.eq (by (first | exact mem0 | exact mem1 | exact mem2 | exact mem3 | exact mem4 | exact mem5)) rfl rfl ?_ | refine newI (fun b hb hn => ?_) | refine storeX 0 rfl Siz.eq rfl rfl (by simp [Value.oneCell']) (by simp) ?_ | refine storeX 1 rfl Siz.eq rfl rfl (by simp [Value.oneCell']) (by simp) ?_ | refine storeX 2 rfl Siz.eq rfl rfl (by simp [Value.oneCell']) (by simp) ?_ | refine storeX 3 rfl Siz.eq rfl rfl (by simp [Value.oneCell']) (by simp) ?_ | refine storeX 4 rfl Siz.eq rfl rfl (by simp [Value.oneCell']) (by simp) ?_ | refine storeX 5 rfl Siz.eq rfl rfl (by simp [Value.oneCell']) (by simp) ?_ | refine storeX 6 rfl Siz.eq rfl rfl (by simp [Value.oneCell']) (by simp) ?_) <;> simp (disch := omega) only [push_cast, Nat.reduceEqDiff]) | (first | rw [V_cond] | rw [V_block]) <;> (try simp (disch := omega) only [push_cast, Nat.reduceEqDiff]))
    exact finIs (hL _ _) (by simp [alikeFP, hm])
  simp (disch := omega) only [push_cast, Nat.reduceEqDiff]
  refine loadX_agg Shp.eq mem0 rfl rfl ?_
  simp (disch := omega) only [push_cast, Nat.reduceEqDiff]
  refine callV en_48 (callX_is (fun w' hw' => mayBe_walk w' lo (Nat.le_trans hlo hw'.size) g a' c' (hr'.sy hlo hw' (fun p hp => Nat.le_trans hlo (hL _ _ p hp))) hc' hc2' hgn) ?_)
  simp (disch := omega) only [push_cast, Nat.reduceEqDiff]
  rcases hm' : mayP [g] [] with _ | _
  · simp (disch := omega) only [push_cast, Nat.reduceEqDiff]
    repeat' (first | ((first | refine guardX_t rfl (fun h => ?_) (fun h => ?_) | refine guardX_f rfl (fun h => ?_) (fun h => ?_) | refine condX_d (fun h => ?_) (fun h => ?_) | (refine guardX_bt rfl (fun h => ?_) (fun h => ?_) <;> (try subst h)) | (refine guardX_bf rfl (fun h => ?_) (fun h => ?_) <;> (try subst h)) | (refine condX_b (fun h => ?_) (fun h => ?_) <;> (try subst h)) | refine ldOne Shp.eq (by (first | exact mem0 | exact mem1 | exact mem2 | exact mem3 | exact mem4 | exact mem5)) rfl ?_ | refine loadX_agg Shp.eq (by (first | exact mem0 | exact mem1 | exact mem2 | exact mem3 | exact mem4 | exact mem5)) rfl rfl ?_ | refine newI (fun b hb hn => ?_) | refine storeX 0 rfl Siz.eq rfl rfl (by simp [Value.oneCell']) (by simp) ?_ | refine storeX 1 rfl Siz.eq rfl rfl (by simp [Value.oneCell']) (by simp) ?_ | refine storeX 2 rfl Siz.eq rfl rfl (by simp [Value.oneCell']) (by simp) ?_ | refine storeX 3 rfl Siz.eq rfl rfl (by simp [Value.oneCell']) (by simp) ?_ | refine storeX 4 rfl Siz.eq rfl rfl (by simp [Value.oneCell']) (by simp) ?_ | refine storeX 5 rfl Siz.eq rfl rfl (by simp [Value.oneCell']) (by simp) ?_ | refine storeX 6 rfl Siz.eq rfl rfl (by simp [Value.oneCell']) (by simp) ?_) <;> simp (disch := omega) only [push_cast, Nat.reduceEqDiff]) | (first | rw [V_cond] | rw [V_block]) <;> (try simp (disch := omega) only [push_cast, Nat.reduceEqDiff]))
    exact finIs (hL _ _) (by simp [alikeFP, hm, hm'])
  simp (disch := omega) only [push_cast, Nat.reduceEqDiff]
  refine loadX_agg Shp.eq mem1 rfl rfl ?_
  simp (disch := omega) only [push_cast, Nat.reduceEqDiff]
  refine bs_22_1 (newI fun b4 hb4 hn4 => ?_)
  simp (disch := omega) only [push_cast, Nat.reduceEqDiff]
  refine loadX_agg Shp.eq mem1 rfl rfl ?_
  simp (disch := omega) only [push_cast, Nat.reduceEqDiff]
  refine bs_22_1 (newI fun b5 hb5 hn5 => ?_)
  simp (disch := omega) only [push_cast, Nat.reduceEqDiff]
  have hL5 : ∀ x y z u : Obj, ∀ p ∈ [(b5, x), (b4, y), (b3, z), (b2, u)], w.heap.size ≤ p.1 := fun x y z u p hp => by
    simp only [List.mem_cons, List.mem_nil_iff, or_false] at hp
    rcases hp with rfl | rfl | rfl | rfl <;> assumption
  refine callV en_49 (callX_is (fun w' hw' => alikeR_walk w' w'.heap.size (Nat.le_refl _) [f] [g] (some ⟨b4, 0, none⟩) (some ⟨b5, 0, none⟩) 1 1 (.cons (hw'.lt (.tail _ (.head _))) hc hfn hc2 (At.of_own hw' (.tail _ (.head _)) rfl) ((hr.sy hlo hw' (fun p hp => Nat.le_trans hlo (hL5 _ _ _ _ p hp))).weaken (Nat.le_trans hlo hw'.size)) (.nil _)) (.cons (hw'.lt (.head _)) hc' hgn hc2' (At.of_own hw' (.head _) rfl) ((hr'.sy hlo hw' (fun p hp => Nat.le_trans hlo (hL5 _ _ _ _ p hp))).weaken (Nat.le_trans hlo hw'.size)) (.nil _)) (by simp) (by omega) (by simp) (by omega) false) ?_)
  simp (disch := omega) only [push_cast, Nat.reduceEqDiff]
  refine finIs (hL5 _ _ _ _) (congrArg Value.bool ?_)
  rw [List.take_of_length_le (by have := few_nodes hm; omega), List.take_of_length_le (by have := few_nodes hm'; omega)]
  show alikeN false 1 1 _ _ = _
  rw [alikeF_law hm hm']
  simp [alikeFP, hm, hm']
end Go.Proofs.YtgbafmjgfbgeoaaDoor
