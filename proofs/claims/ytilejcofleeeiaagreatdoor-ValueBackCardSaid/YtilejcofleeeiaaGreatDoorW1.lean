/- YtilejcofleeeiaaGreatDoor: walks, part 1: the small functions of kind. -/
import Derived.Test.YtilejcofleeeiaaGreatDoorKp
namespace Go.Proofs.YtilejcofleeeiaaGreatDoor
open Go Go.K
set_option maxRecDepth 100000
set_option linter.unusedVariables false
set_option linter.unusedSimpArgs false
set_option maxHeartbeats 4000000
abbrev letterP (c : Int) : Prop := 97 ≤ c ∧ c ≤ 122 ∨ 65 ≤ c ∧ c ≤ 90 ∨ 48 ≤ c ∧ c ≤ 57 ∨ c = 95
theorem letter_walk (w : World) (c : Int) : Calls Tryz.prog 160 #[.int .u8 c] w (Rets w (Is (.bool (decide (letterP c))))) := by
  refine enterT (args := [.int .u8 c]) Tryz.func160 rfl Tryz.ntmps160 (congrArg Array.toList Tryz.results160) (by kernel_rfl) (by simp) (Sy.refl w) ?_
  simp (disch := omega) only [push_cast, Nat.reduceEqDiff]
  repeat' (first | ((first | refine guardX_t rfl (fun h => ?_) (fun h => ?_) | refine guardX_f rfl (fun h => ?_) (fun h => ?_) | refine condX_d (fun h => ?_) (fun h => ?_) | (refine guardX_bt rfl (fun h => ?_) (fun h => ?_) <;> (try subst h)) | (refine guardX_bf rfl (fun h => ?_) (fun h => ?_) <;> (try subst h)) | (refine condX_b (fun h => ?_) (fun h => ?_) <;> (try subst h)) | refine ldOne Shp.eq (by (first | exact mem0 | exact mem1 | exact mem2 | exact mem3 | exact mem4 | exact mem5)) rfl ?_ | refine loadX_agg Shp.eq (by (first | exact mem0 | exact mem1 | exact mem2 | exact mem3 | exact mem4 | exact mem5)) rfl rfl ?_ | refine newI (fun b hb hn => ?_) | refine storeX 0 rfl Siz.eq rfl rfl (by simp [Value.oneCell']) (by simp) ?_ | refine storeX 1 rfl Siz.eq rfl rfl (by simp [Value.oneCell']) (by simp) ?_ | refine storeX 2 rfl Siz.eq rfl rfl (by simp [Value.oneCell']) (by simp) ?_ | refine storeX 3 rfl Siz.eq rfl rfl (by simp [Value.oneCell']) (by simp) ?_ | refine storeX 4 rfl Siz.eq rfl rfl (by simp [Value.oneCell']) (by simp) ?_ | refine storeX 5 rfl Siz.eq rfl rfl (by simp [Value.oneCell']) (by simp) ?_ | refine storeX 6 rfl Siz.eq rfl rfl (by simp [Value.oneCell']) (by simp) ?_) <;> simp (disch := omega) only [push_cast, Nat.reduceEqDiff]) | (first | rw [V_cond] | rw [V_block]) <;> (try simp (disch := omega) only [push_cast, Nat.reduceEqDiff]))
  all_goals (refine fun w' hw => ⟨_, rfl, hw, ?_⟩; first | exact is_t (by omega) | exact is_f (by omega) | exact is_d (by omega))
theorem known_walk (w : World) (k : Int) : Calls Tryz.prog 162 #[i64 k] w (Rets w (Is (.bool (decide (1 ≤ k ∧ k ≤ 20))))) := by
  refine enterT (args := [i64 k]) Tryz.func162 rfl Tryz.ntmps162 (congrArg Array.toList Tryz.results162) (by kernel_rfl) (by simp) (Sy.refl w) ?_
  simp (disch := omega) only [push_cast, Nat.reduceEqDiff]
  repeat' (first | ((first | refine guardX_t rfl (fun h => ?_) (fun h => ?_) | refine guardX_f rfl (fun h => ?_) (fun h => ?_) | refine condX_d (fun h => ?_) (fun h => ?_) | (refine guardX_bt rfl (fun h => ?_) (fun h => ?_) <;> (try subst h)) | (refine guardX_bf rfl (fun h => ?_) (fun h => ?_) <;> (try subst h)) | (refine condX_b (fun h => ?_) (fun h => ?_) <;> (try subst h)) | refine ldOne Shp.eq (by (first | exact mem0 | exact mem1 | exact mem2 | exact mem3 | exact mem4 | exact mem5)) rfl ?_ | refine loadX_agg Shp.eq (by (first | exact mem0 | exact mem1 | exact mem2 | exact mem3 | exact mem4 | exact mem5)) rfl rfl ?_ | refine newI (fun b hb hn => ?_) | refine storeX 0 rfl Siz.eq rfl rfl (by simp [Value.oneCell']) (by simp) ?_ | refine storeX 1 rfl Siz.eq rfl rfl (by simp [Value.oneCell']) (by simp) ?_ | refine storeX 2 rfl Siz.eq rfl rfl (by simp [Value.oneCell']) (by simp) ?_ | refine storeX 3 rfl Siz.eq rfl rfl (by simp [Value.oneCell']) (by simp) ?_ | refine storeX 4 rfl Siz.eq rfl rfl (by simp [Value.oneCell']) (by simp) ?_ | refine storeX 5 rfl Siz.eq rfl rfl (by simp [Value.oneCell']) (by simp) ?_ | refine storeX 6 rfl Siz.eq rfl rfl (by simp [Value.oneCell']) (by simp) ?_) <;> simp (disch := omega) only [push_cast, Nat.reduceEqDiff]) | (first | rw [V_cond] | rw [V_block]) <;> (try simp (disch := omega) only [push_cast, Nat.reduceEqDiff]))
  all_goals (refine fun w' hw => ⟨_, rfl, hw, ?_⟩; first | exact is_t (by omega) | exact is_f (by omega) | exact is_d (by omega))

abbrev nameLet (l : List UInt8) (k : Nat) : Prop := ∀ j, j < k → letterP (l.getD j 0).toNat ∧ ¬ (j = 0 ∧ 48 ≤ (l.getD 0 0).toNat ∧ (l.getD 0 0).toNat ≤ 57)
/-- May these bytes be a name? -/
def isName (l : List UInt8) : Prop := nameLet l l.length ∧ l ≠ [] ∧ l.length ≤ 48
theorem nameLet_succ {l : List UInt8} {k : Nat} (h : nameLet l k) (h1 : letterP (l.getD k 0).toNat) (h2 : ¬ (k = 0 ∧ 48 ≤ (l.getD k 0).toNat ∧ (l.getD k 0).toNat ≤ 57)) : nameLet l (k + 1) := by
  intro j hj
  rcases Nat.lt_or_ge j k with h3 | h3
  · exact h j h3
  · obtain rfl : j = k := by omega
    refine ⟨h1, fun ⟨e, h4⟩ => h2 ?_⟩
    subst e
    exact ⟨rfl, h4⟩
structure NamedI (w0 : World) (l : List UInt8) (k : Nat) (wb : World) (e : Env) (ds : List Deferred) (L : Own) : Prop where
  hw : wb = w0
  d : ds = []
  o : L = []
  kl : k ≤ l.length
  n : nameLet l k
  h0 : e 0 = str l
  h6 : e 6 = i64 l.length
  h7 : e 7 = i64 k
theorem named_walk (w : World) (l : List UInt8) (hl : l.length ≤ 9223372036854775807) : Calls Tryz.prog 138 #[str l] w (Rets w fun v _ => ∃ b, v = .bool b ∧ (b = true ↔ isName l)) := by
  refine enterT (args := [str l]) Tryz.func138 rfl Tryz.ntmps138 (congrArg Array.toList Tryz.results138) (by kernel_rfl) (by simp) (Sy.refl w) ?_
  simp (disch := omega) only [push_cast, Nat.reduceEqDiff]
  refine loopT (G := Nat) (NamedI w l) (fun k => l.length - k) 0 (by kernel_rfl) ⟨rfl, rfl, rfl, by omega, fun j h => by omega, rfl, rfl, rfl⟩ ?_
  rintro k wb e ds L ⟨rfl, rfl, rfl, hk, hn, h0, h6, h7⟩
  simp (disch := omega) only [push_cast, Nat.reduceEqDiff, h0, h6, h7]
  rw [V_cond]
  simp (disch := omega) only [push_cast, Nat.reduceEqDiff, h0, h6, h7]
  refine condX_d (fun hlt => ?_) (fun hge => ?_)
  · simp (disch := omega) only [push_cast, Nat.reduceEqDiff, h0, h6, h7]
    try rw [V_block]
    simp (disch := omega) only [push_cast, Nat.reduceEqDiff, h0, h6, h7]
    refine callV en_160 (callX_is (fun w _ => letter_walk w _) ?_)
    simp (disch := omega) only [push_cast, Nat.reduceEqDiff, h0, h6, h7]
    repeat' (first | ((first | refine guardX_t rfl (fun h => ?_) (fun h => ?_) | refine guardX_f rfl (fun h => ?_) (fun h => ?_) | refine condX_d (fun h => ?_) (fun h => ?_) | (refine guardX_bt rfl (fun h => ?_) (fun h => ?_) <;> (try subst h)) | (refine guardX_bf rfl (fun h => ?_) (fun h => ?_) <;> (try subst h)) | (refine condX_b (fun h => ?_) (fun h => ?_) <;> (try subst h)) | refine ldOne Shp.eq (by (first | exact mem0 | exact mem1 | exact mem2 | exact mem3 | exact mem4 | exact mem5)) rfl ?_ | refine loadX_agg Shp.eq (by (first | exact mem0 | exact mem1 | exact mem2 | exact mem3 | exact mem4 | exact mem5)) rfl rfl ?_ | refine newI (fun b hb hn => ?_) | refine storeX 0 rfl Siz.eq rfl rfl (by simp [Value.oneCell']) (by simp) ?_ | refine storeX 1 rfl Siz.eq rfl rfl (by simp [Value.oneCell']) (by simp) ?_ | refine storeX 2 rfl Siz.eq rfl rfl (by simp [Value.oneCell']) (by simp) ?_ | refine storeX 3 rfl Siz.eq rfl rfl (by simp [Value.oneCell']) (by simp) ?_ | refine storeX 4 rfl Siz.eq rfl rfl (by simp [Value.oneCell']) (by simp) ?_ | refine storeX 5 rfl Siz.eq rfl rfl (by simp [Value.oneCell']) (by simp) ?_ | refine storeX 6 rfl Siz.eq rfl rfl (by simp [Value.oneCell']) (by simp) ?_) <;> simp (disch := omega) only [push_cast, Nat.reduceEqDiff, h0, h6, h7]) | (first | rw [V_cond] | rw [V_block]) <;> (try simp (disch := omega) only [push_cast, Nat.reduceEqDiff, h0, h6, h7]))
    all_goals first
      | (refine fun w' hw => ⟨_, rfl, hw, _, rfl, ?_⟩
         refine ⟨fun h => (by cases h), fun h => ?_⟩
         exfalso
         have h1 := h.1 k (by omega)
         first | (exact absurd h1.1 (by assumption)) | (obtain rfl : k = 0 := by omega
                                                        exact h1.2 ⟨rfl, by omega, by omega⟩))
      | (refine ⟨k + 1, ⟨rfl, rfl, rfl, by omega, nameLet_succ hn (by first | assumption | exact Decidable.not_not.1 (by assumption)) (by omega), h0, h6, ?_⟩, by omega⟩
         simp only [upd]; rfl)
  · simp (disch := omega) only [push_cast, Nat.reduceEqDiff, h0, h6, h7]
    obtain rfl : k = l.length := by omega
    repeat' (first | ((first | refine guardX_t rfl (fun h => ?_) (fun h => ?_) | refine guardX_f rfl (fun h => ?_) (fun h => ?_) | refine condX_d (fun h => ?_) (fun h => ?_) | (refine guardX_bt rfl (fun h => ?_) (fun h => ?_) <;> (try subst h)) | (refine guardX_bf rfl (fun h => ?_) (fun h => ?_) <;> (try subst h)) | (refine condX_b (fun h => ?_) (fun h => ?_) <;> (try subst h)) | refine ldOne Shp.eq (by (first | exact mem0 | exact mem1 | exact mem2 | exact mem3 | exact mem4 | exact mem5)) rfl ?_ | refine loadX_agg Shp.eq (by (first | exact mem0 | exact mem1 | exact mem2 | exact mem3 | exact mem4 | exact mem5)) rfl rfl ?_ | refine newI (fun b hb hn => ?_) | refine storeX 0 rfl Siz.eq rfl rfl (by simp [Value.oneCell']) (by simp) ?_ | refine storeX 1 rfl Siz.eq rfl rfl (by simp [Value.oneCell']) (by simp) ?_ | refine storeX 2 rfl Siz.eq rfl rfl (by simp [Value.oneCell']) (by simp) ?_ | refine storeX 3 rfl Siz.eq rfl rfl (by simp [Value.oneCell']) (by simp) ?_ | refine storeX 4 rfl Siz.eq rfl rfl (by simp [Value.oneCell']) (by simp) ?_ | refine storeX 5 rfl Siz.eq rfl rfl (by simp [Value.oneCell']) (by simp) ?_ | refine storeX 6 rfl Siz.eq rfl rfl (by simp [Value.oneCell']) (by simp) ?_) <;> simp (disch := omega) only [push_cast, Nat.reduceEqDiff, h0, h6, h7]) | (first | rw [V_cond] | rw [V_block]) <;> (try simp (disch := omega) only [push_cast, Nat.reduceEqDiff, h0, h6, h7]))
    · refine fun w' hw => ⟨_, rfl, hw, _, rfl, ?_⟩
      rw [decide_eq_true_iff]
      exact ⟨fun x => ⟨hn, h, by omega⟩, fun x => by have := x.2.2; omega⟩
    · refine fun w' hw => ⟨_, rfl, hw, _, rfl, ?_⟩
      exact ⟨fun x => (by cases x), fun x => absurd x.2.1 h⟩
end Go.Proofs.YtilejcofleeeiaaGreatDoor
