/- YtdmdgkpjjpijdaaDoor: walks, part 3: Nullable, a name among others. -/
import Derived.Test.YtdmdgkpjjpijdaaDoorW2
namespace Go.Proofs.YtdmdgkpjjpijdaaDoor
open Go Go.K
set_option maxRecDepth 100000
set_option linter.unusedVariables false
set_option linter.unusedSimpArgs false
set_option maxHeartbeats 4000000
/-- Is Nullable as it must be? -/
def nullsB (f : Fld) : Bool := if f.k = 1 then f.nl else if f.k = 18 then !f.nl else if f.k = 20 then f.nl == (f.sub.head?.map Fld.nl).getD false else true
theorem nulls_walk (w : World) (f : Fld) (a : Option Addr) (c : Nat) (hk : f.k = 20 → f.sub ≠ []) (hr : Rd w w.heap.size a f.sub) :
    Calls Tryd.prog 48 #[.agg (f.cells a c).toArray] w (Rets w (Is (.bool (nullsB f)))) := by
  refine enterT (args := [.agg (f.cells a c).toArray]) Tryd.func48 rfl Tryd.ntmps48 (congrArg Array.toList Tryd.results48) (by kernel_rfl) (by simp) (Sy.refl w) ?_
  simp (disch := omega) only [push_cast, Nat.reduceEqDiff, Fld.cells]
  repeat' (first | ((first | refine guardX_t rfl (fun h => ?_) (fun h => ?_) | refine guardX_f rfl (fun h => ?_) (fun h => ?_) | refine condX_d (fun h => ?_) (fun h => ?_) | (refine guardX_bt rfl (fun h => ?_) (fun h => ?_) <;> (try subst h)) | (refine guardX_bf rfl (fun h => ?_) (fun h => ?_) <;> (try subst h)) | (refine condX_b (fun h => ?_) (fun h => ?_) <;> (try subst h)) | refine ldOne Shp.eq (by (first | exact mem0 | exact mem1 | exact mem2 | exact mem3 | exact mem4 | exact mem5)) rfl ?_ | refine loadX_agg Shp.eq (by (first | exact mem0 | exact mem1 | exact mem2 | exact mem3 | exact mem4 | exact mem5)) rfl rfl ?_ | refine newI (fun b hb hn => ?_) | refine storeX 0 rfl Siz.eq rfl rfl (by simp [Value.oneCell']) (by simp) ?_ | refine storeX 1 rfl Siz.eq rfl rfl (by simp [Value.oneCell']) (by simp) ?_ | refine storeX 2 rfl Siz.eq rfl rfl (by simp [Value.oneCell']) (by simp) ?_ | refine storeX 3 rfl Siz.eq rfl rfl (by simp [Value.oneCell']) (by simp) ?_ | refine storeX 4 rfl Siz.eq rfl rfl (by simp [Value.oneCell']) (by simp) ?_ | refine storeX 5 rfl Siz.eq rfl rfl (by simp [Value.oneCell']) (by simp) ?_ | refine storeX 6 rfl Siz.eq rfl rfl (by simp [Value.oneCell']) (by simp) ?_) <;> simp (disch := omega) only [push_cast, Nat.reduceEqDiff]) | (first | rw [V_cond] | rw [V_block]) <;> (try simp (disch := omega) only [push_cast, Nat.reduceEqDiff]))
  case refine_2.refine_2.refine_1 =>
    rename_i h2 h
    obtain ⟨g, l, hl⟩ : ∃ g l, f.sub = g :: l := List.exists_cons_of_ne_nil (hk h)
    have hlen : 0 < f.sub.length := by rw [hl]; simp
    rw [hl] at hr
    obtain ⟨b', off, rfl, hb'⟩ := hr.some_of
    obtain ⟨a', c', x1, x2, x3⟩ := hr.get 0 rfl
    refine drawQT (by kernel_rfl) (by kernel_rfl) mixed (by kernel_rfl) ?_
    simp (disch := omega) only [push_cast, Nat.reduceEqDiff]
    repeat' (first | ((first | refine guardX_t rfl (fun h => ?_) (fun h => ?_) | refine guardX_f rfl (fun h => ?_) (fun h => ?_) | refine condX_d (fun h => ?_) (fun h => ?_) | (refine guardX_bt rfl (fun h => ?_) (fun h => ?_) <;> (try subst h)) | (refine guardX_bf rfl (fun h => ?_) (fun h => ?_) <;> (try subst h)) | (refine condX_b (fun h => ?_) (fun h => ?_) <;> (try subst h)) | refine ldOne Shp.eq (by (first | exact mem0 | exact mem1 | exact mem2 | exact mem3 | exact mem4 | exact mem5)) rfl ?_ | refine loadX_agg Shp.eq (by (first | exact mem0 | exact mem1 | exact mem2 | exact mem3 | exact mem4 | exact mem5)) rfl rfl ?_ | refine newI (fun b hb hn => ?_) | refine storeX 0 rfl Siz.eq rfl rfl (by simp [Value.oneCell']) (by simp) ?_ | refine storeX 1 rfl Siz.eq rfl rfl (by simp [Value.oneCell']) (by simp) ?_ | refine storeX 2 rfl Siz.eq rfl rfl (by simp [Value.oneCell']) (by simp) ?_ | refine storeX 3 rfl Siz.eq rfl rfl (by simp [Value.oneCell']) (by simp) ?_ | refine storeX 4 rfl Siz.eq rfl rfl (by simp [Value.oneCell']) (by simp) ?_ | refine storeX 5 rfl Siz.eq rfl rfl (by simp [Value.oneCell']) (by simp) ?_ | refine storeX 6 rfl Siz.eq rfl rfl (by simp [Value.oneCell']) (by simp) ?_) <;> simp (disch := omega) only [push_cast, Nat.reduceEqDiff]) | (first | rw [V_cond] | rw [V_block]) <;> (try simp (disch := omega) only [push_cast, Nat.reduceEqDiff]))
    refine ldF (by exact sh_4) (x2.sub 1 [.bool g.nl] rfl) (out_of (by simp only [List.mem_singleton]; rintro p rfl; simp only; omega)) ?_
    simp (disch := omega) only [push_cast, Nat.reduceEqDiff]
    refine fun w' hw => ⟨_, rfl, hw.drop (List.nil_sublist _) (fun p hp => .inr (by simp at hp; rw [hp]; assumption)), ?_⟩
    simp only [Is, nullsB, h, hl, h2, if_true, if_false]
    rfl
  all_goals (refine fun w' hw => ⟨_, rfl, hw.drop (List.nil_sublist _) (fun p hp => .inr (by simp at hp; rw [hp]; assumption)), ?_⟩)
  all_goals simp only [Is, nullsB, if_true, if_false, *]
  all_goals simp
end Go.Proofs.YtdmdgkpjjpijdaaDoor
