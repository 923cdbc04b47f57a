/- YtdmdgkpjjpijdaaGreatDoor: walks, part 21: the reference's shape of a type. -/
import Derived.Test.YtdmdgkpjjpijdaaGreatDoorW8
import Derived.Test.YtdmdgkpjjpijdaaGreatDoorW10
namespace Go.Proofs.YtdmdgkpjjpijdaaGreatDoor
open Go Go.K
set_option maxRecDepth 100000
set_option linter.unusedVariables false
set_option linter.unusedSimpArgs false
set_option maxHeartbeats 4000000
abbrev idP (k id : Int) : Prop := if k = 19 then 0 ≤ id ∧ id < 32 else id = 0
abbrev ixP (k ix : Int) : Prop := if k = 19 then 3 ≤ ix ∧ ix ≤ 10 else ix = 0
theorem wide_14 {k wd : Int} (h : k = 14) : wideP k wd ↔ 1 ≤ wd ∧ wd ≤ 16 := by subst h; simp [wideP,widthK]
theorem wide_16 {k wd : Int} (h : k = 16) : wideP k wd ↔ 1 ≤ wd ∧ wd ≤ 64 := by subst h; simp [wideP,widthK]
theorem wide_o {k wd : Int} (h : k ≠ 14) (h2 : k ≠ 16) : wideP k wd ↔ wd = 0 := by simp [wideP,widthK,h,h2]
theorem id_19 {k id : Int} (h : k = 19) : idP k id ↔ 0 ≤ id ∧ id < 32 := by simp [idP,h]
theorem id_o {k id : Int} (h : k ≠ 19) : idP k id ↔ id = 0 := by simp [idP,h]
theorem ix_19 {k ix : Int} (h : k = 19) : ixP k ix ↔ 3 ≤ ix ∧ ix ≤ 10 := by simp [ixP,h]
theorem ix_o {k ix : Int} (h : k ≠ 19) : ixP k ix ↔ ix = 0 := by simp [ixP,h]
theorem shaped_iff {k wd id ix : Int} {n : Nat} : shapedP k wd id ix n ↔ (1 ≤ k ∧ k ≤ 20) ∧ wideP k wd ∧ idP k id ∧ ixP k ix ∧ leastK k ≤ n ∧ (n : Int) ≤ mostK k := by
  have : toldP k id ix ↔ idP k id ∧ ixP k ix := by
    unfold toldP idP ixP
    by_cases h : k = 19
    · simp only [if_pos h]; exact ⟨fun ⟨a,b,c,d⟩ => ⟨⟨a,b⟩,c,d⟩,fun ⟨⟨a,b⟩,c,d⟩ => ⟨a,b,c,d⟩⟩
    · simp only [if_neg h]
  unfold shapedP
  rw [this]
  exact ⟨fun ⟨a,b,⟨c,d⟩,e,f⟩ => ⟨a,b,c,d,e,f⟩,fun ⟨a,b,c,d,e,f⟩ => ⟨a,b,⟨c,d⟩,e,f⟩⟩
structure ShapI (w0 : World) (b : Nat) (k wd id ix : Int) (a : Option Addr) (n c : Nat) (wb : World) (e : Env) (ds : List Deferred) (L : Own) : Prop where
  hw : wb = w0
  d : ds = []
  o : L = [(b,.cells #[i64 k,i64 wd,i64 id,i64 ix,.slice a n c] 35 (0,0))]
  h1 : e 1 = .pointer (some ⟨b,0,none⟩)
  h3 : e 3 = i64 (leastK k)
  h4 : e 4 = i64 (mostK k)
  h5 : e 5 = .bool (decide (wideP k wd))
  h6 : e 6 = .bool (decide (idP k id))
  h7 : e 7 = .bool (decide (ixP k ix))
theorem shapedR_walk (w : World) (k wd id ix : Int) (a : Option Addr) (n c : Nat) : Calls Tryz.prog 95 #[.agg #[i64 k,i64 wd,i64 id,i64 ix,.slice a n c]] w (Rets w (Is (.bool (decide (shapedP k wd id ix n))))) := by
  refine enterT (args := [.agg #[i64 k,i64 wd,i64 id,i64 ix,.slice a n c]]) Tryz.func95 rfl Tryz.ntmps95 (congrArg Array.toList Tryz.results95) (by kernel_rfl) (by simp) (Sy.refl w) ?_
  simp (disch:=omega) only[push_cast,Nat.reduceEqDiff]
  refine newI (fun b hb hn => ?_)
  simp (disch:=omega) only[push_cast,Nat.reduceEqDiff]
  repeat' (first | ((first | refine guardX_t rfl (fun h => ?_) (fun h => ?_) | refine guardX_f rfl (fun h => ?_) (fun h => ?_) | refine condX_d (fun h => ?_) (fun h => ?_) | (refine guardX_bt rfl (fun h => ?_) (fun h => ?_) <;> (try subst h)) | (refine guardX_bf rfl (fun h => ?_) (fun h => ?_) <;> (try subst h)) | (refine condX_b (fun h => ?_) (fun h => ?_) <;> (try subst h)) | refine ldOne Shp.eq (by (first | exact mem0 | exact mem1 | exact mem2 | exact mem3)) rfl ?_ | refine loadX_agg Shp.eq (by (first | exact mem0 | exact mem1 | exact mem2 | exact mem3)) rfl rfl ?_ | refine newI (fun b hb hn => ?_) | refine storeX 0 rfl Siz.eq rfl rfl (by simp [Value.oneCell']) (by simp) ?_ | refine storeX 1 rfl Siz.eq rfl rfl (by simp [Value.oneCell']) (by simp) ?_ | refine storeX 2 rfl Siz.eq rfl rfl (by simp [Value.oneCell']) (by simp) ?_ | refine storeX 3 rfl Siz.eq rfl rfl (by simp [Value.oneCell']) (by simp) ?_) <;> simp (disch:=omega) only[push_cast,Nat.reduceEqDiff]))
  refine drawQT (by kernel_rfl) (by kernel_rfl) mixed (by kernel_rfl) ?_
  simp (disch:=omega) only[push_cast,Nat.reduceEqDiff]
  repeat' (first | ((first | refine guardX_t rfl (fun h => ?_) (fun h => ?_) | refine guardX_f rfl (fun h => ?_) (fun h => ?_) | refine condX_d (fun h => ?_) (fun h => ?_) | (refine guardX_bt rfl (fun h => ?_) (fun h => ?_) <;> (try subst h)) | (refine guardX_bf rfl (fun h => ?_) (fun h => ?_) <;> (try subst h)) | (refine condX_b (fun h => ?_) (fun h => ?_) <;> (try subst h)) | refine ldOne Shp.eq (by (first | exact mem0 | exact mem1 | exact mem2 | exact mem3)) rfl ?_ | refine loadX_agg Shp.eq (by (first | exact mem0 | exact mem1 | exact mem2 | exact mem3)) rfl rfl ?_ | refine newI (fun b hb hn => ?_) | refine storeX 0 rfl Siz.eq rfl rfl (by simp [Value.oneCell']) (by simp) ?_ | refine storeX 1 rfl Siz.eq rfl rfl (by simp [Value.oneCell']) (by simp) ?_ | refine storeX 2 rfl Siz.eq rfl rfl (by simp [Value.oneCell']) (by simp) ?_ | refine storeX 3 rfl Siz.eq rfl rfl (by simp [Value.oneCell']) (by simp) ?_) <;> simp (disch:=omega) only[push_cast,Nat.reduceEqDiff]))
  refine cutV (ShapI w b k wd id ix a n c) ?_ ?_
  · rw [V_block]
    simp (disch:=omega) only[push_cast,Nat.reduceEqDiff]
    repeat' (first | ((first | refine guardX_t rfl (fun h => ?_) (fun h => ?_) | refine guardX_f rfl (fun h => ?_) (fun h => ?_) | refine condX_d (fun h => ?_) (fun h => ?_) | (refine guardX_bt rfl (fun h => ?_) (fun h => ?_) <;> (try subst h)) | (refine guardX_bf rfl (fun h => ?_) (fun h => ?_) <;> (try subst h)) | (refine condX_b (fun h => ?_) (fun h => ?_) <;> (try subst h)) | refine ldOne Shp.eq (by (first | exact mem0 | exact mem1 | exact mem2 | exact mem3)) rfl ?_ | refine loadX_agg Shp.eq (by (first | exact mem0 | exact mem1 | exact mem2 | exact mem3)) rfl rfl ?_ | refine newI (fun b hb hn => ?_) | refine storeX 0 rfl Siz.eq rfl rfl (by simp [Value.oneCell']) (by simp) ?_ | refine storeX 1 rfl Siz.eq rfl rfl (by simp [Value.oneCell']) (by simp) ?_ | refine storeX 2 rfl Siz.eq rfl rfl (by simp [Value.oneCell']) (by simp) ?_ | refine storeX 3 rfl Siz.eq rfl rfl (by simp [Value.oneCell']) (by simp) ?_) <;> simp (disch:=omega) only[push_cast,Nat.reduceEqDiff]) | (first | rw [V_cond] | rw [V_block]) <;> (try simp (disch:=omega) only[push_cast,Nat.reduceEqDiff]))
    all_goals (refine ⟨rfl,rfl,rfl,rfl,i64_eq ?_,i64_eq ?_,?_,?_,?_⟩)
    all_goals first
      | (unfold leastK; repeat' split; all_goals omega)
      | (unfold mostK; repeat' split; all_goals omega)
      | (refine is_d ?_; rw [wide_14 (by omega)]; first | done | omega)
      | (refine is_t ?_; rw [wide_14 (by omega)]; first | done | omega)
      | (refine is_f ?_; rw [wide_14 (by omega)]; first | done | omega)
      | (refine is_d ?_; rw [wide_16 (by omega)]; first | done | omega)
      | (refine is_t ?_; rw [wide_16 (by omega)]; first | done | omega)
      | (refine is_f ?_; rw [wide_16 (by omega)]; first | done | omega)
      | (refine is_d ?_; rw [wide_o (by omega) (by omega)]; first | done | omega)
      | (refine is_t ?_; rw [wide_o (by omega) (by omega)]; first | done | omega)
      | (refine is_f ?_; rw [wide_o (by omega) (by omega)]; first | done | omega)
      | (refine is_d ?_; rw [id_19 (by omega)]; first | done | omega)
      | (refine is_t ?_; rw [id_19 (by omega)]; first | done | omega)
      | (refine is_f ?_; rw [id_19 (by omega)]; first | done | omega)
      | (refine is_d ?_; rw [id_o (by omega)]; first | done | omega)
      | (refine is_t ?_; rw [id_o (by omega)]; first | done | omega)
      | (refine is_f ?_; rw [id_o (by omega)]; first | done | omega)
      | (refine is_d ?_; rw [ix_19 (by omega)]; first | done | omega)
      | (refine is_t ?_; rw [ix_19 (by omega)]; first | done | omega)
      | (refine is_f ?_; rw [ix_19 (by omega)]; first | done | omega)
      | (refine is_d ?_; rw [ix_o (by omega)]; first | done | omega)
      | (refine is_t ?_; rw [ix_o (by omega)]; first | done | omega)
      | (refine is_f ?_; rw [ix_o (by omega)]; first | done | omega)
  rintro wb e ds L ⟨rfl,rfl,rfl,h1,h3,h4,h5,h6,h7⟩
  simp (disch:=omega) only[push_cast,Nat.reduceEqDiff,h1,h3,h4,h5,h6,h7]
  repeat' (first | ((first | refine guardX_t rfl (fun h => ?_) (fun h => ?_) | refine guardX_f rfl (fun h => ?_) (fun h => ?_) | refine condX_d (fun h => ?_) (fun h => ?_) | (refine guardX_bt rfl (fun h => ?_) (fun h => ?_) <;> (try subst h)) | (refine guardX_bf rfl (fun h => ?_) (fun h => ?_) <;> (try subst h)) | (refine condX_b (fun h => ?_) (fun h => ?_) <;> (try subst h)) | refine ldOne Shp.eq (by (first | exact mem0 | exact mem1 | exact mem2 | exact mem3)) rfl ?_ | refine loadX_agg Shp.eq (by (first | exact mem0 | exact mem1 | exact mem2 | exact mem3)) rfl rfl ?_ | refine newI (fun b hb hn => ?_) | refine storeX 0 rfl Siz.eq rfl rfl (by simp [Value.oneCell']) (by simp) ?_ | refine storeX 1 rfl Siz.eq rfl rfl (by simp [Value.oneCell']) (by simp) ?_ | refine storeX 2 rfl Siz.eq rfl rfl (by simp [Value.oneCell']) (by simp) ?_ | refine storeX 3 rfl Siz.eq rfl rfl (by simp [Value.oneCell']) (by simp) ?_) <;> simp (disch:=omega) only[push_cast,Nat.reduceEqDiff,h1,h3,h4,h5,h6,h7]) | (first | rw [V_cond] | rw [V_block]) <;> (try simp (disch:=omega) only[push_cast,Nat.reduceEqDiff,h1,h3,h4,h5,h6,h7]))
  all_goals (refine fun w' hw => ⟨_,rfl,hw.drop (List.nil_sublist _) (fun p hp => .inr (by simp at hp; rw [hp]; assumption)),?_⟩)
  all_goals first
    | exact is_f (fun hh => h (shaped_iff.1 hh).1.1)
    | exact is_f (fun hh => h (shaped_iff.1 hh).1.2)
    | exact is_f (fun hh => h (shaped_iff.1 hh).2.1)
    | exact is_f (fun hh => h (shaped_iff.1 hh).2.2.1)
    | exact is_f (fun hh => h (shaped_iff.1 hh).2.2.2.1)
    | exact is_f (fun hh => h (shaped_iff.1 hh).2.2.2.2.1)
    | exact is_d ⟨fun p => shaped_iff.2 ⟨⟨by omega,by omega⟩,by assumption,by assumption,by assumption,by assumption,p⟩,fun p => p.2.2.2.2⟩
end Go.Proofs.YtdmdgkpjjpijdaaGreatDoor
