/- YtjkogfiidhjpcaaDoor: walks, part 20: the reference's small functions of kind. -/
import Derived.Test.YtjkogfiidhjpcaaDoorW8
namespace Go.Proofs.YtjkogfiidhjpcaaDoor
open Go Go.K
set_option maxRecDepth 100000
set_option linter.unusedVariables false
set_option linter.unusedSimpArgs false
set_option maxHeartbeats 4000000
theorem letterR_walk (w : World) (c : Int) : Calls Tryd.prog 116 #[.int .u8 c] w (Rets w (Is (.bool (decide (letterP c))))) := by
  refine enterT (args := [.int .u8 c]) Tryd.func116 rfl Tryd.ntmps116 (congrArg Array.toList Tryd.results116) (by kernel_rfl) (by simp) (Sy.refl w) ?_
  simp (disch := omega) only [push_cast, Nat.reduceEqDiff]
  repeat' (first | ((first | refine guardX_t rfl (fun h => ?_) (fun h => ?_) | refine guardX_f rfl (fun h => ?_) (fun h => ?_) | refine condX_d (fun h => ?_) (fun h => ?_) | (refine guardX_bt rfl (fun h => ?_) (fun h => ?_) <;> (try subst h)) | (refine guardX_bf rfl (fun h => ?_) (fun h => ?_) <;> (try subst h)) | (refine condX_b (fun h => ?_) (fun h => ?_) <;> (try subst h)) | refine ldOne Shp.eq (by (first | exact mem0 | exact mem1 | exact mem2 | exact mem3 | exact mem4 | exact mem5)) rfl ?_ | refine loadX_agg Shp.eq (by (first | exact mem0 | exact mem1 | exact mem2 | exact mem3 | exact mem4 | exact mem5)) rfl rfl ?_ | refine newI (fun b hb hn => ?_) | refine storeX 0 rfl Siz.eq rfl rfl (by simp [Value.oneCell']) (by simp) ?_ | refine storeX 1 rfl Siz.eq rfl rfl (by simp [Value.oneCell']) (by simp) ?_ | refine storeX 2 rfl Siz.eq rfl rfl (by simp [Value.oneCell']) (by simp) ?_ | refine storeX 3 rfl Siz.eq rfl rfl (by simp [Value.oneCell']) (by simp) ?_ | refine storeX 4 rfl Siz.eq rfl rfl (by simp [Value.oneCell']) (by simp) ?_ | refine storeX 5 rfl Siz.eq rfl rfl (by simp [Value.oneCell']) (by simp) ?_ | refine storeX 6 rfl Siz.eq rfl rfl (by simp [Value.oneCell']) (by simp) ?_) <;> simp (disch := omega) only [push_cast, Nat.reduceEqDiff]) | (first | rw [V_cond] | rw [V_block]) <;> (try simp (disch := omega) only [push_cast, Nat.reduceEqDiff]))
  all_goals (refine fun w' hw => ⟨_, rfl, hw, ?_⟩; first | exact is_t (by omega) | exact is_f (by omega) | exact is_d (by omega))
structure NameRI (w0 : World) (l : List UInt8) (k : Nat) (wb : World) (e : Env) (ds : List Deferred) (L : Own) : Prop where
  hw : wb = w0
  d : ds = []
  o : L = []
  kl : k ≤ l.length
  n : ∀ j, j < k → letterP (l.getD j 0).toNat
  h0 : e 0 = str l
  h3 : e 3 = i64 k
theorem isNameR_walk (w : World) (l : List UInt8) (hl : l.length ≤ 9223372036854775807) : Calls Tryd.prog 108 #[str l] w (Rets w fun v _ => ∃ b, v = .bool b ∧ (b = true ↔ isName l)) := by
  refine enterT (args := [str l]) Tryd.func108 rfl Tryd.ntmps108 (congrArg Array.toList Tryd.results108) (by kernel_rfl) (by simp) (Sy.refl w) ?_
  simp (disch := omega) only [push_cast, Nat.reduceEqDiff]
  have bad : (l.length < 1 ∨ 48 < l.length ∨ (48 ≤ (l.getD 0 0).toNat ∧ (l.getD 0 0).toNat ≤ 57)) → ¬ isName l := fun h hn => by
    obtain ⟨h1, h2, h3⟩ := hn
    have hpos : 0 < l.length := by
      rcases Nat.eq_zero_or_pos l.length with h | h
      · exact absurd (List.eq_nil_of_length_eq_zero h) h2
      · exact h
    have := (h1 0 hpos).2
    omega
  repeat' (first | ((first | refine guardX_t rfl (fun h => ?_) (fun h => ?_) | refine guardX_f rfl (fun h => ?_) (fun h => ?_) | refine condX_d (fun h => ?_) (fun h => ?_) | (refine guardX_bt rfl (fun h => ?_) (fun h => ?_) <;> (try subst h)) | (refine guardX_bf rfl (fun h => ?_) (fun h => ?_) <;> (try subst h)) | (refine condX_b (fun h => ?_) (fun h => ?_) <;> (try subst h)) | refine ldOne Shp.eq (by (first | exact mem0 | exact mem1 | exact mem2 | exact mem3 | exact mem4 | exact mem5)) rfl ?_ | refine loadX_agg Shp.eq (by (first | exact mem0 | exact mem1 | exact mem2 | exact mem3 | exact mem4 | exact mem5)) rfl rfl ?_ | refine newI (fun b hb hn => ?_) | refine storeX 0 rfl Siz.eq rfl rfl (by simp [Value.oneCell']) (by simp) ?_ | refine storeX 1 rfl Siz.eq rfl rfl (by simp [Value.oneCell']) (by simp) ?_ | refine storeX 2 rfl Siz.eq rfl rfl (by simp [Value.oneCell']) (by simp) ?_ | refine storeX 3 rfl Siz.eq rfl rfl (by simp [Value.oneCell']) (by simp) ?_ | refine storeX 4 rfl Siz.eq rfl rfl (by simp [Value.oneCell']) (by simp) ?_ | refine storeX 5 rfl Siz.eq rfl rfl (by simp [Value.oneCell']) (by simp) ?_ | refine storeX 6 rfl Siz.eq rfl rfl (by simp [Value.oneCell']) (by simp) ?_) <;> simp (disch := omega) only [push_cast, Nat.reduceEqDiff]) | (first | rw [V_cond] | rw [V_block]) <;> (try simp (disch := omega) only [push_cast, Nat.reduceEqDiff]))
  all_goals first
    | (refine fun w' hw => ⟨_, rfl, hw, _, rfl, ?_⟩; exact ⟨fun h => (by cases h), fun h => absurd h (bad (by omega))⟩)
    | skip
  all_goals
    refine loopT (G := Nat) (NameRI w l) (fun k => l.length - k) 0 (by kernel_rfl) ⟨rfl, rfl, rfl, by omega, fun j h => by omega, rfl, rfl⟩ ?_
    rintro k wb e ds L ⟨rfl, rfl, rfl, hk, hn, h0, h3⟩
    simp (disch := omega) only [push_cast, Nat.reduceEqDiff, h0, h3]
    rw [V_cond]
    simp (disch := omega) only [push_cast, Nat.reduceEqDiff, h0, h3]
    refine condX_d (fun hlt => ?_) (fun hge => ?_)
    · simp (disch := omega) only [push_cast, Nat.reduceEqDiff, h0, h3]
      rw [V_block]
      simp (disch := omega) only [push_cast, Nat.reduceEqDiff, h0, h3]
      refine callV en_116 (callX_is (fun w _ => letterR_walk w _) ?_)
      simp (disch := omega) only [push_cast, Nat.reduceEqDiff, h0, h3]
      rw [V_cond]
      simp (disch := omega) only [push_cast, Nat.reduceEqDiff, h0, h3]
      refine condX_d (fun hb => ?_) (fun hb => ?_)
      · simp (disch := omega) only [push_cast, Nat.reduceEqDiff, h0, h3]
        refine fun w' hw => ⟨_, rfl, hw, _, rfl, ?_⟩
        exact ⟨fun h => (by cases h), fun h => absurd (h.1 k (by omega)).1 hb⟩
      · simp (disch := omega) only [push_cast, Nat.reduceEqDiff, h0, h3]
        refine ⟨k + 1, ⟨rfl, rfl, rfl, by omega, fun j hj => ?_, h0, by simp only [upd]; rfl⟩, by omega⟩
        rcases Nat.lt_or_ge j k with h | h
        · exact hn j h
        · obtain rfl : j = k := by omega
          exact Decidable.not_not.1 hb
    · obtain rfl : k = l.length := by omega
      simp (disch := omega) only [push_cast, Nat.reduceEqDiff, h0, h3]
      refine fun w' hw => ⟨_, rfl, hw, _, rfl, ?_⟩
      refine ⟨fun _ => ⟨fun j hj => ⟨hn j hj, fun h => ?_⟩, fun h => ?_, by omega⟩, fun _ => rfl⟩
      · omega
      · have h9 := congrArg List.length h
        simp only [List.length_nil] at h9
        omega
theorem nullsR_walk (w : World) (f : Fld) (a : Option Addr) (c : Nat) (hk : f.k = 20 → f.sub ≠ []) (hr : Rd w w.heap.size a f.sub) :
    Calls Tryd.prog 110 #[.agg (f.cells a c).toArray] w (Rets w (Is (.bool (nullsB f)))) := by
  refine enterT (args := [.agg (f.cells a c).toArray]) Tryd.func110 rfl Tryd.ntmps110 (congrArg Array.toList Tryd.results110) (by kernel_rfl) (by simp) (Sy.refl w) ?_
  simp (disch := omega) only [push_cast, Nat.reduceEqDiff, Fld.cells]
  repeat' (first | ((first | refine guardX_t rfl (fun h => ?_) (fun h => ?_) | refine guardX_f rfl (fun h => ?_) (fun h => ?_) | refine condX_d (fun h => ?_) (fun h => ?_) | (refine guardX_bt rfl (fun h => ?_) (fun h => ?_) <;> (try subst h)) | (refine guardX_bf rfl (fun h => ?_) (fun h => ?_) <;> (try subst h)) | (refine condX_b (fun h => ?_) (fun h => ?_) <;> (try subst h)) | refine ldOne Shp.eq (by (first | exact mem0 | exact mem1 | exact mem2 | exact mem3 | exact mem4 | exact mem5)) rfl ?_ | refine loadX_agg Shp.eq (by (first | exact mem0 | exact mem1 | exact mem2 | exact mem3 | exact mem4 | exact mem5)) rfl rfl ?_ | refine newI (fun b hb hn => ?_) | refine storeX 0 rfl Siz.eq rfl rfl (by simp [Value.oneCell']) (by simp) ?_ | refine storeX 1 rfl Siz.eq rfl rfl (by simp [Value.oneCell']) (by simp) ?_ | refine storeX 2 rfl Siz.eq rfl rfl (by simp [Value.oneCell']) (by simp) ?_ | refine storeX 3 rfl Siz.eq rfl rfl (by simp [Value.oneCell']) (by simp) ?_ | refine storeX 4 rfl Siz.eq rfl rfl (by simp [Value.oneCell']) (by simp) ?_ | refine storeX 5 rfl Siz.eq rfl rfl (by simp [Value.oneCell']) (by simp) ?_ | refine storeX 6 rfl Siz.eq rfl rfl (by simp [Value.oneCell']) (by simp) ?_) <;> simp (disch := omega) only [push_cast, Nat.reduceEqDiff]) | (first | rw [V_cond] | rw [V_block]) <;> (try simp (disch := omega) only [push_cast, Nat.reduceEqDiff]))
  case refine_2.refine_2.refine_1 =>
    rename_i h2 h
    obtain ⟨g, l, hl⟩ : ∃ g l, f.sub = g :: l := List.exists_cons_of_ne_nil (hk h)
    have hlen : 0 < f.sub.length := by rw [hl]; simp
    rw [hl] at hr
    obtain ⟨b', off, rfl, hb'⟩ := hr.some_of
    obtain ⟨a', c', x1, x2, x3⟩ := hr.get 0 rfl
    refine drawQT (by kernel_rfl) (by kernel_rfl) mixed (by kernel_rfl) ?_
    simp (disch := omega) only [push_cast, Nat.reduceEqDiff]
    repeat' (first | ((first | refine guardX_t rfl (fun h => ?_) (fun h => ?_) | refine guardX_f rfl (fun h => ?_) (fun h => ?_) | refine condX_d (fun h => ?_) (fun h => ?_) | (refine guardX_bt rfl (fun h => ?_) (fun h => ?_) <;> (try subst h)) | (refine guardX_bf rfl (fun h => ?_) (fun h => ?_) <;> (try subst h)) | (refine condX_b (fun h => ?_) (fun h => ?_) <;> (try subst h)) | refine ldOne Shp.eq (by (first | exact mem0 | exact mem1 | exact mem2 | exact mem3 | exact mem4 | exact mem5)) rfl ?_ | refine loadX_agg Shp.eq (by (first | exact mem0 | exact mem1 | exact mem2 | exact mem3 | exact mem4 | exact mem5)) rfl rfl ?_ | refine newI (fun b hb hn => ?_) | refine storeX 0 rfl Siz.eq rfl rfl (by simp [Value.oneCell']) (by simp) ?_ | refine storeX 1 rfl Siz.eq rfl rfl (by simp [Value.oneCell']) (by simp) ?_ | refine storeX 2 rfl Siz.eq rfl rfl (by simp [Value.oneCell']) (by simp) ?_ | refine storeX 3 rfl Siz.eq rfl rfl (by simp [Value.oneCell']) (by simp) ?_ | refine storeX 4 rfl Siz.eq rfl rfl (by simp [Value.oneCell']) (by simp) ?_ | refine storeX 5 rfl Siz.eq rfl rfl (by simp [Value.oneCell']) (by simp) ?_ | refine storeX 6 rfl Siz.eq rfl rfl (by simp [Value.oneCell']) (by simp) ?_) <;> simp (disch := omega) only [push_cast, Nat.reduceEqDiff]) | (first | rw [V_cond] | rw [V_block]) <;> (try simp (disch := omega) only [push_cast, Nat.reduceEqDiff]))
    refine ldF (by exact sh_4) (x2.sub 1 [.bool g.nl] rfl) (out_of (by simp only [List.mem_singleton]; rintro p rfl; simp only; omega)) ?_
    simp (disch := omega) only [push_cast, Nat.reduceEqDiff]
    refine fun w' hw => ⟨_, rfl, hw.drop (List.nil_sublist _) (fun p hp => .inr (by simp at hp; rw [hp]; assumption)), ?_⟩
    simp only [Is, nullsB, h, hl, h2, if_true, if_false]
    rfl
  all_goals (refine fun w' hw => ⟨_, rfl, hw.drop (List.nil_sublist _) (fun p hp => .inr (by simp at hp; rw [hp]; assumption)), ?_⟩)
  all_goals simp only [Is, nullsB, if_true, if_false, *]
  all_goals simp
end Go.Proofs.YtjkogfiidhjpcaaDoor
