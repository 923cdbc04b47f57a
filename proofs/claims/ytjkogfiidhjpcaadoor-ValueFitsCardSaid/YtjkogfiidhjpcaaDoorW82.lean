/- YtjkogfiidhjpcaaDoor: walks, part 81: strings of the library: utf8.ValidString and strings.Compare by the shelf's contracts (their layings are written by the kit's lay-plain.mjs). -/
import Derived.Test.YtjkogfiidhjpcaaDoorKp
import Derived.Test.YtjkogfiidhjpcaaDoorKs
import Derived.Shelf.Unicode.ValidAny
import Derived.Shelf.Small.Strs
namespace Go.Proofs.YtjkogfiidhjpcaaDoor
open Go Go.K Go.Shelf
set_option maxRecDepth 100000
set_option linter.unusedVariables false
set_option linter.unusedSimpArgs false
def laysValid_ren : Go.Shelf.Ren := ⟨fun | 196 => 68 | 259 => 89 | n => n, fun | 9 => 9 | 4 => 4 | 3 => 3 | 5 => 5 | 12 => 12 | 119 => 129 | 0 => 0 | 46 => 104 | 139 => 132 | 138 => 131 | 53 => 36 | n => n, fun | 3 => 0 | 4 => 1 | n => n⟩
theorem laysValid : Go.Proofs.Lays.n196 Tryd.prog laysValid_ren := {
  mixed := by kernel_rfl
  f196 := Tryd.func68.trans (congrArg some (by kernel_rfl))
  f259 := Tryd.func89.trans (congrArg some (by kernel_rfl))
  t0 := Tryd.underlying0
  a0 := Tryd.isAgg0
  z0 := Tryd.sizeOf0
  v0 := Tryd.zeroValue0
  t3 := Tryd.underlying3
  a3 := Tryd.isAgg3
  z3 := Tryd.sizeOf3
  v3 := Tryd.zeroValue3
  t4 := Tryd.underlying4
  a4 := Tryd.isAgg4
  z4 := Tryd.sizeOf4
  v4 := Tryd.zeroValue4
  t5 := Tryd.underlying5
  a5 := Tryd.isAgg5
  z5 := Tryd.sizeOf5
  v5 := Tryd.zeroValue5
  t9 := Tryd.underlying9
  a9 := Tryd.isAgg9
  z9 := Tryd.sizeOf9
  v9 := Tryd.zeroValue9
  t12 := Tryd.underlying12
  a12 := Tryd.isAgg12
  z12 := Tryd.sizeOf12
  v12 := Tryd.zeroValue12
  t46 := Tryd.underlying104
  a46 := Tryd.isAgg104
  z46 := Tryd.sizeOf104
  v46 := Tryd.zeroValue104
  t53 := Tryd.underlying36
  a53 := Tryd.isAgg36
  z53 := Tryd.sizeOf36
  v53 := Tryd.zeroValue36
  t119 := Tryd.underlying129
  a119 := Tryd.isAgg129
  z119 := Tryd.sizeOf129
  t138 := Tryd.underlying131
  a138 := Tryd.isAgg131
  z138 := Tryd.sizeOf131
  v138 := Tryd.zeroValue131
  t139 := Tryd.underlying132
  a139 := Tryd.isAgg132
  z139 := Tryd.sizeOf132
  v139 := Tryd.zeroValue132
  g3 := by kernel_rfl
  g4 := by kernel_rfl }
def laysComp_ren : Go.Shelf.Ren := ⟨fun | 106 => 49 | 213 => 72 | 265 => 91 | n => n, fun | 9 => 9 | 3 => 3 | n => n, fun | n => n⟩
theorem laysComp : Go.Proofs.Lays.n106 Tryd.prog laysComp_ren := {
  mixed := by kernel_rfl
  f106 := Tryd.func49.trans (congrArg some (by kernel_rfl))
  f213 := Tryd.func72.trans (congrArg some (by kernel_rfl))
  f265 := Tryd.func91.trans (congrArg some (by kernel_rfl))
  t3 := Tryd.underlying3
  a3 := Tryd.isAgg3
  z3 := Tryd.sizeOf3
  v3 := Tryd.zeroValue3
  t9 := Tryd.underlying9
  a9 := Tryd.isAgg9
  z9 := Tryd.sizeOf9
  v9 := Tryd.zeroValue9 }
/-- utf8's tables lie where the library has laid them. -/
def TabsAt (w : World) : Prop := Lib.Utf8Tabs (laysValid_ren.g 3) (laysValid_ren.g 4) w
theorem valid_walk (w : World) (hT : TabsAt w) (l : List UInt8) (hl : l.length ≤ 9223372036854775807) : Calls Tryd.prog 68 #[str l] w (Rets w (Is (.bool (Lib.validD l)))) := by
  have h := Any.utf8_ValidString laysValid ⟨l.toArray⟩ w (by simpa [ByteArray.size] using hl) hT
  refine h.mono ?_
  rintro e w' ⟨rfl, hb⟩
  exact ⟨_, rfl, Sy.of_below hb, rfl⟩
theorem compare_walk (w : World) (l m : List UInt8) : Calls Tryd.prog 49 #[str l, str m] w (Rets w (Is (i64 (Lib.compareBytes l m)))) := by
  have h := Any.strings_Compare laysComp ⟨l.toArray⟩ ⟨m.toArray⟩ w
  refine h.mono ?_
  rintro e w' ⟨rfl, rfl⟩
  exact ⟨_, rfl, Sy.refl _, rfl⟩
end Go.Proofs.YtjkogfiidhjpcaaDoor
/- YtjkogfiidhjpcaaDoor: walks, part 82: numbers: kinds of whole numbers and their ranges, numbers compared, the place of a floating-point number. -/
namespace Go.Proofs.YtjkogfiidhjpcaaDoor
open Go Go.K
set_option maxRecDepth 100000
set_option linter.unusedVariables false
set_option linter.unusedSimpArgs false
set_option maxHeartbeats 1000000
abbrev u64 (n : Int) : Value := .int .u64 n
theorem isNaN_u_walk (w : World) (x : Int) : Calls Tryd.prog 71 #[u64 x] w (Rets w (Is (.bool false))) := by
  refine enterT (args := [u64 x]) Tryd.func71 rfl Tryd.ntmps71 (congrArg Array.toList Tryd.results71) (by kernel_rfl) (by simp) (Sy.refl w) ?_
  simp (disch := omega) only [push_cast, Nat.reduceEqDiff, ne_eq, not_true_eq_false, decide_false]
  exact finIs (by simp) rfl
theorem isNaN_i_walk (w : World) (x : Int) : Calls Tryd.prog 73 #[i64 x] w (Rets w (Is (.bool false))) := by
  refine enterT (args := [i64 x]) Tryd.func73 rfl Tryd.ntmps73 (congrArg Array.toList Tryd.results73) (by kernel_rfl) (by simp) (Sy.refl w) ?_
  simp (disch := omega) only [push_cast, Nat.reduceEqDiff, ne_eq, not_true_eq_false, decide_false]
  exact finIs (by simp) rfl
theorem isNaN_n_walk (w : World) (x : Int) : Calls Tryd.prog 74 #[i64 x] w (Rets w (Is (.bool false))) := by
  refine enterT (args := [i64 x]) Tryd.func74 rfl Tryd.ntmps74 (congrArg Array.toList Tryd.results74) (by kernel_rfl) (by simp) (Sy.refl w) ?_
  simp (disch := omega) only [push_cast, Nat.reduceEqDiff, ne_eq, not_true_eq_false, decide_false]
  exact finIs (by simp) rfl
/-- Which of two numbers is the smaller one: -1, 0, 1. -/
def cmpZ (x y : Int) : Int := if x < y then -1 else if y < x then 1 else 0
theorem cmp_u_walk (w : World) (x y : Int) : Calls Tryd.prog 47 #[u64 x, u64 y] w (Rets w (Is (i64 (cmpZ x y)))) := by
  refine enterT (args := [u64 x, u64 y]) Tryd.func47 rfl Tryd.ntmps47 (congrArg Array.toList Tryd.results47) (by kernel_rfl) (by simp) (Sy.refl w) ?_
  simp (disch := omega) only [push_cast, Nat.reduceEqDiff]
  refine callV en_71 (callX_is (fun w' _ => isNaN_u_walk w' x) ?_)
  simp (disch := omega) only [push_cast, Nat.reduceEqDiff]
  refine callV en_71 (callX_is (fun w' _ => isNaN_u_walk w' y) ?_)
  simp (disch := omega) only [push_cast, Nat.reduceEqDiff]
  rw [V_cond]
  simp (disch := omega) only [push_cast, Nat.reduceEqDiff]
  rw [V_cond]
  simp (disch := omega) only [push_cast, Nat.reduceEqDiff]
  repeat' (first | ((first | refine guardX_t rfl (fun h => ?_) (fun h => ?_) | refine guardX_f rfl (fun h => ?_) (fun h => ?_) | refine condX_d (fun h => ?_) (fun h => ?_) | (refine guardX_bt rfl (fun h => ?_) (fun h => ?_) <;> (try subst h)) | (refine guardX_bf rfl (fun h => ?_) (fun h => ?_) <;> (try subst h)) | (refine condX_b (fun h => ?_) (fun h => ?_) <;> (try subst h)) | refine ldOne Shp.eq (by (first | exact mem0 | exact mem1 | exact mem2 | exact mem3 | exact mem4 | exact mem5)) rfl ?_ | refine loadX_agg Shp.eq (by (first | exact mem0 | exact mem1 | exact mem2 | exact mem3 | exact mem4 | exact mem5)) rfl rfl ?_ | refine newI (fun b hb hn => ?_) | refine storeX 0 rfl Siz.eq rfl rfl (by simp [Value.oneCell']) (by simp) ?_ | refine storeX 1 rfl Siz.eq rfl rfl (by simp [Value.oneCell']) (by simp) ?_ | refine storeX 2 rfl Siz.eq rfl rfl (by simp [Value.oneCell']) (by simp) ?_ | refine storeX 3 rfl Siz.eq rfl rfl (by simp [Value.oneCell']) (by simp) ?_ | refine storeX 4 rfl Siz.eq rfl rfl (by simp [Value.oneCell']) (by simp) ?_ | refine storeX 5 rfl Siz.eq rfl rfl (by simp [Value.oneCell']) (by simp) ?_ | refine storeX 6 rfl Siz.eq rfl rfl (by simp [Value.oneCell']) (by simp) ?_) <;> simp (disch := omega) only [push_cast, Nat.reduceEqDiff]) | (first | rw [V_cond] | rw [V_block]) <;> (try simp (disch := omega) only [push_cast, Nat.reduceEqDiff]))
  all_goals refine finIs (by simp) (congrArg i64 ?_)
  all_goals (unfold cmpZ; (repeat' split) <;> omega)
theorem cmp_i_walk (w : World) (x y : Int) : Calls Tryd.prog 50 #[i64 x, i64 y] w (Rets w (Is (i64 (cmpZ x y)))) := by
  refine enterT (args := [i64 x, i64 y]) Tryd.func50 rfl Tryd.ntmps50 (congrArg Array.toList Tryd.results50) (by kernel_rfl) (by simp) (Sy.refl w) ?_
  simp (disch := omega) only [push_cast, Nat.reduceEqDiff]
  refine callV en_73 (callX_is (fun w' _ => isNaN_i_walk w' x) ?_)
  simp (disch := omega) only [push_cast, Nat.reduceEqDiff]
  refine callV en_73 (callX_is (fun w' _ => isNaN_i_walk w' y) ?_)
  simp (disch := omega) only [push_cast, Nat.reduceEqDiff]
  rw [V_cond]
  simp (disch := omega) only [push_cast, Nat.reduceEqDiff]
  rw [V_cond]
  simp (disch := omega) only [push_cast, Nat.reduceEqDiff]
  repeat' (first | ((first | refine guardX_t rfl (fun h => ?_) (fun h => ?_) | refine guardX_f rfl (fun h => ?_) (fun h => ?_) | refine condX_d (fun h => ?_) (fun h => ?_) | (refine guardX_bt rfl (fun h => ?_) (fun h => ?_) <;> (try subst h)) | (refine guardX_bf rfl (fun h => ?_) (fun h => ?_) <;> (try subst h)) | (refine condX_b (fun h => ?_) (fun h => ?_) <;> (try subst h)) | refine ldOne Shp.eq (by (first | exact mem0 | exact mem1 | exact mem2 | exact mem3 | exact mem4 | exact mem5)) rfl ?_ | refine loadX_agg Shp.eq (by (first | exact mem0 | exact mem1 | exact mem2 | exact mem3 | exact mem4 | exact mem5)) rfl rfl ?_ | refine newI (fun b hb hn => ?_) | refine storeX 0 rfl Siz.eq rfl rfl (by simp [Value.oneCell']) (by simp) ?_ | refine storeX 1 rfl Siz.eq rfl rfl (by simp [Value.oneCell']) (by simp) ?_ | refine storeX 2 rfl Siz.eq rfl rfl (by simp [Value.oneCell']) (by simp) ?_ | refine storeX 3 rfl Siz.eq rfl rfl (by simp [Value.oneCell']) (by simp) ?_ | refine storeX 4 rfl Siz.eq rfl rfl (by simp [Value.oneCell']) (by simp) ?_ | refine storeX 5 rfl Siz.eq rfl rfl (by simp [Value.oneCell']) (by simp) ?_ | refine storeX 6 rfl Siz.eq rfl rfl (by simp [Value.oneCell']) (by simp) ?_) <;> simp (disch := omega) only [push_cast, Nat.reduceEqDiff]) | (first | rw [V_cond] | rw [V_block]) <;> (try simp (disch := omega) only [push_cast, Nat.reduceEqDiff]))
  all_goals refine finIs (by simp) (congrArg i64 ?_)
  all_goals (unfold cmpZ; (repeat' split) <;> omega)
theorem cmp_n_walk (w : World) (x y : Int) : Calls Tryd.prog 51 #[i64 x, i64 y] w (Rets w (Is (i64 (cmpZ x y)))) := by
  refine enterT (args := [i64 x, i64 y]) Tryd.func51 rfl Tryd.ntmps51 (congrArg Array.toList Tryd.results51) (by kernel_rfl) (by simp) (Sy.refl w) ?_
  simp (disch := omega) only [push_cast, Nat.reduceEqDiff]
  refine callV en_74 (callX_is (fun w' _ => isNaN_n_walk w' x) ?_)
  simp (disch := omega) only [push_cast, Nat.reduceEqDiff]
  refine callV en_74 (callX_is (fun w' _ => isNaN_n_walk w' y) ?_)
  simp (disch := omega) only [push_cast, Nat.reduceEqDiff]
  rw [V_cond]
  simp (disch := omega) only [push_cast, Nat.reduceEqDiff]
  rw [V_cond]
  simp (disch := omega) only [push_cast, Nat.reduceEqDiff]
  repeat' (first | ((first | refine guardX_t rfl (fun h => ?_) (fun h => ?_) | refine guardX_f rfl (fun h => ?_) (fun h => ?_) | refine condX_d (fun h => ?_) (fun h => ?_) | (refine guardX_bt rfl (fun h => ?_) (fun h => ?_) <;> (try subst h)) | (refine guardX_bf rfl (fun h => ?_) (fun h => ?_) <;> (try subst h)) | (refine condX_b (fun h => ?_) (fun h => ?_) <;> (try subst h)) | refine ldOne Shp.eq (by (first | exact mem0 | exact mem1 | exact mem2 | exact mem3 | exact mem4 | exact mem5)) rfl ?_ | refine loadX_agg Shp.eq (by (first | exact mem0 | exact mem1 | exact mem2 | exact mem3 | exact mem4 | exact mem5)) rfl rfl ?_ | refine newI (fun b hb hn => ?_) | refine storeX 0 rfl Siz.eq rfl rfl (by simp [Value.oneCell']) (by simp) ?_ | refine storeX 1 rfl Siz.eq rfl rfl (by simp [Value.oneCell']) (by simp) ?_ | refine storeX 2 rfl Siz.eq rfl rfl (by simp [Value.oneCell']) (by simp) ?_ | refine storeX 3 rfl Siz.eq rfl rfl (by simp [Value.oneCell']) (by simp) ?_ | refine storeX 4 rfl Siz.eq rfl rfl (by simp [Value.oneCell']) (by simp) ?_ | refine storeX 5 rfl Siz.eq rfl rfl (by simp [Value.oneCell']) (by simp) ?_ | refine storeX 6 rfl Siz.eq rfl rfl (by simp [Value.oneCell']) (by simp) ?_) <;> simp (disch := omega) only [push_cast, Nat.reduceEqDiff]) | (first | rw [V_cond] | rw [V_block]) <;> (try simp (disch := omega) only [push_cast, Nat.reduceEqDiff]))
  all_goals refine finIs (by simp) (congrArg i64 ?_)
  all_goals (unfold cmpZ; (repeat' split) <;> omega)
def wholeP (k : Int) : Bool := decide (3 ≤ k) && decide (k ≤ 10)
theorem whole_walk (w : World) (k : Int) : Calls Tryd.prog 69 #[i64 k] w (Rets w (Is (.bool (wholeP k)))) := by
  refine enterT (args := [i64 k]) Tryd.func69 rfl Tryd.ntmps69 (congrArg Array.toList Tryd.results69) (by kernel_rfl) (by simp) (Sy.refl w) ?_
  simp (disch := omega) only [push_cast, Nat.reduceEqDiff]
  repeat' (first | ((first | refine guardX_t rfl (fun h => ?_) (fun h => ?_) | refine guardX_f rfl (fun h => ?_) (fun h => ?_) | refine condX_d (fun h => ?_) (fun h => ?_) | (refine guardX_bt rfl (fun h => ?_) (fun h => ?_) <;> (try subst h)) | (refine guardX_bf rfl (fun h => ?_) (fun h => ?_) <;> (try subst h)) | (refine condX_b (fun h => ?_) (fun h => ?_) <;> (try subst h)) | refine ldOne Shp.eq (by (first | exact mem0 | exact mem1 | exact mem2 | exact mem3 | exact mem4 | exact mem5)) rfl ?_ | refine loadX_agg Shp.eq (by (first | exact mem0 | exact mem1 | exact mem2 | exact mem3 | exact mem4 | exact mem5)) rfl rfl ?_ | refine newI (fun b hb hn => ?_) | refine storeX 0 rfl Siz.eq rfl rfl (by simp [Value.oneCell']) (by simp) ?_ | refine storeX 1 rfl Siz.eq rfl rfl (by simp [Value.oneCell']) (by simp) ?_ | refine storeX 2 rfl Siz.eq rfl rfl (by simp [Value.oneCell']) (by simp) ?_ | refine storeX 3 rfl Siz.eq rfl rfl (by simp [Value.oneCell']) (by simp) ?_ | refine storeX 4 rfl Siz.eq rfl rfl (by simp [Value.oneCell']) (by simp) ?_ | refine storeX 5 rfl Siz.eq rfl rfl (by simp [Value.oneCell']) (by simp) ?_ | refine storeX 6 rfl Siz.eq rfl rfl (by simp [Value.oneCell']) (by simp) ?_) <;> simp (disch := omega) only [push_cast, Nat.reduceEqDiff]) | (first | rw [V_cond] | rw [V_block]) <;> (try simp (disch := omega) only [push_cast, Nat.reduceEqDiff]))
  all_goals refine finIs (by simp) (congrArg Value.bool ?_)
  · simp [wholeP, h]
  · simp [wholeP]; omega
def bitsP (k : Int) : Int := if k = 3 ∨ k = 7 then 8 else if k = 4 ∨ k = 8 then 16 else if k = 5 ∨ k = 9 then 32 else 64
theorem kinds8 {k : Int} (h : 3 ≤ k ∧ k ≤ 10) : k = 3 ∨ k = 4 ∨ k = 5 ∨ k = 6 ∨ k = 7 ∨ k = 8 ∨ k = 9 ∨ k = 10 := by omega
theorem sized_walk (w : World) (k : Int) (hk : 3 ≤ k ∧ k ≤ 10) : Calls Tryd.prog 90 #[i64 k] w (Rets w (Is (.tuple #[i64 (bitsP k), .bool (decide (k ≤ 6))]))) := by
  refine enterT (args := [i64 k]) Tryd.func90 rfl Tryd.ntmps90 (congrArg Array.toList Tryd.results90) (by kernel_rfl) (by simp) (Sy.refl w) ?_
  simp (disch := omega) only [push_cast, Nat.reduceEqDiff]
  rcases kinds8 hk with rfl | rfl | rfl | rfl | rfl | rfl | rfl | rfl
  all_goals simp (disch := omega) only [push_cast, Nat.reduceEqDiff, Int.reduceLE, decide_true, decide_false]
  all_goals rw [V_cond]
  all_goals simp (disch := omega) only [push_cast, Nat.reduceEqDiff, Int.reduceSub]
  · refine ⟨i64 8, fun w => by kernel_rfl, ?_⟩
    simp (disch := omega) only [push_cast, Nat.reduceEqDiff]
    exact finIs (by simp) rfl
  · refine ⟨i64 16, fun w => by kernel_rfl, ?_⟩
    simp (disch := omega) only [push_cast, Nat.reduceEqDiff]
    exact finIs (by simp) rfl
  · refine ⟨i64 32, fun w => by kernel_rfl, ?_⟩
    simp (disch := omega) only [push_cast, Nat.reduceEqDiff]
    exact finIs (by simp) rfl
  · refine ⟨i64 64, fun w => by kernel_rfl, ?_⟩
    simp (disch := omega) only [push_cast, Nat.reduceEqDiff]
    exact finIs (by simp) rfl
  · refine ⟨i64 8, fun w => by kernel_rfl, ?_⟩
    simp (disch := omega) only [push_cast, Nat.reduceEqDiff]
    exact finIs (by simp) rfl
  · refine ⟨i64 16, fun w => by kernel_rfl, ?_⟩
    simp (disch := omega) only [push_cast, Nat.reduceEqDiff]
    exact finIs (by simp) rfl
  · refine ⟨i64 32, fun w => by kernel_rfl, ?_⟩
    simp (disch := omega) only [push_cast, Nat.reduceEqDiff]
    exact finIs (by simp) rfl
  · refine ⟨i64 64, fun w => by kernel_rfl, ?_⟩
    simp (disch := omega) only [push_cast, Nat.reduceEqDiff]
    exact finIs (by simp) rfl
def rangedP (k n : Int) : Bool := if k = 6 ∨ k = 10 then true else if k ≤ 6 then decide (-(2 : Int) ^ (bitsP k - 1).toNat ≤ n) && decide (n < 2 ^ (bitsP k - 1).toNat) else decide (0 ≤ n) && decide (n < 2 ^ (bitsP k).toNat)
theorem ranged_walk (w : World) (k n : Int) (hk : 3 ≤ k ∧ k ≤ 10) : Calls Tryd.prog 70 #[i64 k, i64 n] w (Rets w (Is (.bool (rangedP k n)))) := by
  refine enterT (args := [i64 k, i64 n]) Tryd.func70 rfl Tryd.ntmps70 (congrArg Array.toList Tryd.results70) (by kernel_rfl) (by simp) (Sy.refl w) ?_
  simp (disch := omega) only [push_cast, Nat.reduceEqDiff]
  refine callV en_90 (callX_is (fun w' _ => sized_walk w' k hk) ?_)
  rcases kinds8 hk with rfl | rfl | rfl | rfl | rfl | rfl | rfl | rfl
  · rw [show bitsP 3 = 8 from rfl]
    simp (disch := omega) only [push_cast, Nat.reduceEqDiff, decide_true, decide_false, Int.reduceEq, Int.reduceLE, Int.reduceSub]
    rw [V_block]
    simp (disch := omega) only [push_cast, Nat.reduceEqDiff, decide_true, decide_false, Int.reduceEq, Int.reduceLE, Int.reduceSub]
    rw [V_cond]
    simp (disch := omega) only [push_cast, Nat.reduceEqDiff, decide_true, decide_false, Int.reduceEq, Int.reduceLE, Int.reduceSub]
    rw [V_cond]
    simp (disch := omega) only [push_cast, Nat.reduceEqDiff, decide_true, decide_false, Int.reduceEq, Int.reduceLE, Int.reduceSub]
    refine ⟨i64 (-128), fun w => by kernel_rfl, ?_⟩
    simp (disch := omega) only [push_cast, Nat.reduceEqDiff]
    have hr : rangedP 3 n = (decide ((-128 : Int) ≤ n) && decide (n < 128)) := rfl
    rw [hr]
    refine guardX_t rfl (fun h => ?_) (fun h => ?_)
    · simp (disch := omega) only [push_cast, Nat.reduceEqDiff, decide_true, decide_false, Int.reduceEq, Int.reduceLE, Int.reduceSub]
      refine ⟨i64 128, fun w => by kernel_rfl, ?_⟩
      simp (disch := omega) only [push_cast, Nat.reduceEqDiff]
      exact finIs (by simp) (by simp [h])
    · simp (disch := omega) only [push_cast, Nat.reduceEqDiff]
      exact finIs (by simp) (by simp [h])
  · rw [show bitsP 4 = 16 from rfl]
    simp (disch := omega) only [push_cast, Nat.reduceEqDiff, decide_true, decide_false, Int.reduceEq, Int.reduceLE, Int.reduceSub]
    rw [V_block]
    simp (disch := omega) only [push_cast, Nat.reduceEqDiff, decide_true, decide_false, Int.reduceEq, Int.reduceLE, Int.reduceSub]
    rw [V_cond]
    simp (disch := omega) only [push_cast, Nat.reduceEqDiff, decide_true, decide_false, Int.reduceEq, Int.reduceLE, Int.reduceSub]
    rw [V_cond]
    simp (disch := omega) only [push_cast, Nat.reduceEqDiff, decide_true, decide_false, Int.reduceEq, Int.reduceLE, Int.reduceSub]
    refine ⟨i64 (-32768), fun w => by kernel_rfl, ?_⟩
    simp (disch := omega) only [push_cast, Nat.reduceEqDiff]
    have hr : rangedP 4 n = (decide ((-32768 : Int) ≤ n) && decide (n < 32768)) := rfl
    rw [hr]
    refine guardX_t rfl (fun h => ?_) (fun h => ?_)
    · simp (disch := omega) only [push_cast, Nat.reduceEqDiff, decide_true, decide_false, Int.reduceEq, Int.reduceLE, Int.reduceSub]
      refine ⟨i64 32768, fun w => by kernel_rfl, ?_⟩
      simp (disch := omega) only [push_cast, Nat.reduceEqDiff]
      exact finIs (by simp) (by simp [h])
    · simp (disch := omega) only [push_cast, Nat.reduceEqDiff]
      exact finIs (by simp) (by simp [h])
  · rw [show bitsP 5 = 32 from rfl]
    simp (disch := omega) only [push_cast, Nat.reduceEqDiff, decide_true, decide_false, Int.reduceEq, Int.reduceLE, Int.reduceSub]
    rw [V_block]
    simp (disch := omega) only [push_cast, Nat.reduceEqDiff, decide_true, decide_false, Int.reduceEq, Int.reduceLE, Int.reduceSub]
    rw [V_cond]
    simp (disch := omega) only [push_cast, Nat.reduceEqDiff, decide_true, decide_false, Int.reduceEq, Int.reduceLE, Int.reduceSub]
    rw [V_cond]
    simp (disch := omega) only [push_cast, Nat.reduceEqDiff, decide_true, decide_false, Int.reduceEq, Int.reduceLE, Int.reduceSub]
    refine ⟨i64 (-2147483648), fun w => by kernel_rfl, ?_⟩
    simp (disch := omega) only [push_cast, Nat.reduceEqDiff]
    have hr : rangedP 5 n = (decide ((-2147483648 : Int) ≤ n) && decide (n < 2147483648)) := rfl
    rw [hr]
    refine guardX_t rfl (fun h => ?_) (fun h => ?_)
    · simp (disch := omega) only [push_cast, Nat.reduceEqDiff, decide_true, decide_false, Int.reduceEq, Int.reduceLE, Int.reduceSub]
      refine ⟨i64 2147483648, fun w => by kernel_rfl, ?_⟩
      simp (disch := omega) only [push_cast, Nat.reduceEqDiff]
      exact finIs (by simp) (by simp [h])
    · simp (disch := omega) only [push_cast, Nat.reduceEqDiff]
      exact finIs (by simp) (by simp [h])
  · rw [show bitsP 6 = 64 from rfl]
    simp (disch := omega) only [push_cast, Nat.reduceEqDiff, decide_true, decide_false, Int.reduceEq, Int.reduceLE, Int.reduceSub]
    rw [V_block]
    simp (disch := omega) only [push_cast, Nat.reduceEqDiff, decide_true, decide_false, Int.reduceEq, Int.reduceLE, Int.reduceSub]
    rw [V_cond]
    simp (disch := omega) only [push_cast, Nat.reduceEqDiff, decide_true, decide_false, Int.reduceEq, Int.reduceLE, Int.reduceSub]
    exact finIs (by simp) rfl
  · rw [show bitsP 7 = 8 from rfl]
    simp (disch := omega) only [push_cast, Nat.reduceEqDiff, decide_true, decide_false, Int.reduceEq, Int.reduceLE, Int.reduceSub]
    rw [V_block]
    simp (disch := omega) only [push_cast, Nat.reduceEqDiff, decide_true, decide_false, Int.reduceEq, Int.reduceLE, Int.reduceSub]
    rw [V_cond]
    simp (disch := omega) only [push_cast, Nat.reduceEqDiff, decide_true, decide_false, Int.reduceEq, Int.reduceLE, Int.reduceSub]
    rw [V_cond]
    simp (disch := omega) only [push_cast, Nat.reduceEqDiff, decide_true, decide_false, Int.reduceEq, Int.reduceLE, Int.reduceSub]
    have hr : rangedP 7 n = (decide ((0 : Int) ≤ n) && decide (n < 256)) := rfl
    rw [hr]
    refine guardX_t rfl (fun h => ?_) (fun h => ?_)
    · simp (disch := omega) only [push_cast, Nat.reduceEqDiff, decide_true, decide_false, Int.reduceEq, Int.reduceLE, Int.reduceSub]
      refine ⟨i64 256, fun w => by kernel_rfl, ?_⟩
      simp (disch := omega) only [push_cast, Nat.reduceEqDiff]
      exact finIs (by simp) (by simp [h])
    · simp (disch := omega) only [push_cast, Nat.reduceEqDiff]
      exact finIs (by simp) (by simp [h])
  · rw [show bitsP 8 = 16 from rfl]
    simp (disch := omega) only [push_cast, Nat.reduceEqDiff, decide_true, decide_false, Int.reduceEq, Int.reduceLE, Int.reduceSub]
    rw [V_block]
    simp (disch := omega) only [push_cast, Nat.reduceEqDiff, decide_true, decide_false, Int.reduceEq, Int.reduceLE, Int.reduceSub]
    rw [V_cond]
    simp (disch := omega) only [push_cast, Nat.reduceEqDiff, decide_true, decide_false, Int.reduceEq, Int.reduceLE, Int.reduceSub]
    rw [V_cond]
    simp (disch := omega) only [push_cast, Nat.reduceEqDiff, decide_true, decide_false, Int.reduceEq, Int.reduceLE, Int.reduceSub]
    have hr : rangedP 8 n = (decide ((0 : Int) ≤ n) && decide (n < 65536)) := rfl
    rw [hr]
    refine guardX_t rfl (fun h => ?_) (fun h => ?_)
    · simp (disch := omega) only [push_cast, Nat.reduceEqDiff, decide_true, decide_false, Int.reduceEq, Int.reduceLE, Int.reduceSub]
      refine ⟨i64 65536, fun w => by kernel_rfl, ?_⟩
      simp (disch := omega) only [push_cast, Nat.reduceEqDiff]
      exact finIs (by simp) (by simp [h])
    · simp (disch := omega) only [push_cast, Nat.reduceEqDiff]
      exact finIs (by simp) (by simp [h])
  · rw [show bitsP 9 = 32 from rfl]
    simp (disch := omega) only [push_cast, Nat.reduceEqDiff, decide_true, decide_false, Int.reduceEq, Int.reduceLE, Int.reduceSub]
    rw [V_block]
    simp (disch := omega) only [push_cast, Nat.reduceEqDiff, decide_true, decide_false, Int.reduceEq, Int.reduceLE, Int.reduceSub]
    rw [V_cond]
    simp (disch := omega) only [push_cast, Nat.reduceEqDiff, decide_true, decide_false, Int.reduceEq, Int.reduceLE, Int.reduceSub]
    rw [V_cond]
    simp (disch := omega) only [push_cast, Nat.reduceEqDiff, decide_true, decide_false, Int.reduceEq, Int.reduceLE, Int.reduceSub]
    have hr : rangedP 9 n = (decide ((0 : Int) ≤ n) && decide (n < 4294967296)) := rfl
    rw [hr]
    refine guardX_t rfl (fun h => ?_) (fun h => ?_)
    · simp (disch := omega) only [push_cast, Nat.reduceEqDiff, decide_true, decide_false, Int.reduceEq, Int.reduceLE, Int.reduceSub]
      refine ⟨i64 4294967296, fun w => by kernel_rfl, ?_⟩
      simp (disch := omega) only [push_cast, Nat.reduceEqDiff]
      exact finIs (by simp) (by simp [h])
    · simp (disch := omega) only [push_cast, Nat.reduceEqDiff]
      exact finIs (by simp) (by simp [h])
  · rw [show bitsP 10 = 64 from rfl]
    simp (disch := omega) only [push_cast, Nat.reduceEqDiff, decide_true, decide_false, Int.reduceEq, Int.reduceLE, Int.reduceSub]
    rw [V_block]
    simp (disch := omega) only [push_cast, Nat.reduceEqDiff, decide_true, decide_false, Int.reduceEq, Int.reduceLE, Int.reduceSub]
    rw [V_cond]
    simp (disch := omega) only [push_cast, Nat.reduceEqDiff, decide_true, decide_false, Int.reduceEq, Int.reduceLE, Int.reduceSub]
    exact finIs (by simp) rfl
end Go.Proofs.YtjkogfiidhjpcaaDoor
