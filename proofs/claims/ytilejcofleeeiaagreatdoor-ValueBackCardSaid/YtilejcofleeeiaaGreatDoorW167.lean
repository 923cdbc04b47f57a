/- YtilejcofleeeiaaGreatDoor: the walk calculus: turns of lists of blocks. -/
import Derived.Test.YtilejcofleeeiaaGreatDoorW233
namespace Go.Proofs.YtilejcofleeeiaaGreatDoor
open Go Go.K
set_option maxRecDepth 100000
set_option linter.unusedVariables false
set_option linter.unusedSimpArgs false
set_option maxHeartbeats 4000000
/-- What 'number' answers. -/
def NbS (k : Int) (row : List UInt8) (v : Value) : Prop := ∃ (n : Int) (b : Bool), v = .tuple #[i64 n, .bool b] ∧ (b = true → readN k row = some n) ∧ (b = false → readN k row = none)
theorem NbS.no {k : Int} {row : List UInt8} (n : Int) (h : ∀ m, isNum k m → numT k m ≠ row) : NbS k row (.tuple #[i64 n, .bool false]) := ⟨n, false, rfl, fun h => absurd h (by decide), fun _ => readN_no h⟩
theorem NbS.dec {k n : Int} {row : List UInt8} {p : Prop} [Decidable p] (h1 : p → isNum k n ∧ numT k n = row) (h2 : ¬ p → ∀ m, isNum k m → numT k m ≠ row) : NbS k row (.tuple #[i64 n, .bool (decide p)]) :=
  ⟨n, _, rfl, fun h => readN_yes (h1 (of_decide_eq_true h)).1 (h1 (of_decide_eq_true h)).2, fun h => readN_no (h2 (of_decide_eq_false h))⟩
theorem numT_un {m : Int} : numT 10 m = Lib.decDigits (unsP m) := by unfold numT; rw [if_neg (by decide), if_pos rfl]
theorem uns_wrap {u : Nat} (h : u < 18446744073709551616) : unsP (IntKind.i64.wrap u) = u := by
  rw [show IntKind.i64.wrap (u : Int) = _ from IntKind.wrap_i64 _]
  unfold unsP
  omega
theorem number_walk (w : World) (hl : LibV w) (k : Int) (row : List UInt8) (hlen : row.length ≤ 65536) : Calls Tryz.prog 75 #[i64 k, str row] w (Rets w fun v _ => NbS k row v) := by
  refine enterT (args := [i64 k, str row]) Tryz.func75 rfl Tryz.ntmps75 (congrArg Array.toList Tryz.results75) (by kernel_rfl) (by simp) (Sy.refl w) ?_
  simp (disch := omega) only [push_cast, Nat.reduceEqDiff]
  rw [V_block]
  simp (disch := omega) only [push_cast, Nat.reduceEqDiff]
  rw [V_cond]
  simp (disch := omega) only [push_cast, Nat.reduceEqDiff]
  refine condX_d (fun hk => ?_) (fun hk2 => ?_)
  · have hb : ∀ m, isNum k m → m = 0 ∨ m = 1 := fun m hm => by have := hm.2; rwa [if_pos hk] at this
    have ht : ∀ m, numT k m = boolT (decide (m = 1)) := fun m => by unfold numT; rw [if_pos hk]
    simp (disch := omega) only [push_cast, Nat.reduceEqDiff]
    rw [V_cond]
    simp (disch := omega) only [push_cast, Nat.reduceEqDiff]
    refine condX_d (fun h1 => ?_) (fun h1 => ?_)
    · simp (disch := omega) only [push_cast, Nat.reduceEqDiff]
      refine guardX_f rfl (fun h => absurd h1 h) (fun _ => ?_)
      simp (disch := omega) only [push_cast, Nat.reduceEqDiff]
      exact finEx (by simp) fun w' _ => ⟨1, true, rfl, fun _ => readN_yes ⟨by decide, by rw [if_pos hk]; exact .inr rfl⟩ (by rw [ht, h1]; rfl), fun h => absurd h (by decide)⟩
    · simp (disch := omega) only [push_cast, Nat.reduceEqDiff]
      refine guardX_f rfl (fun _ => ?_) (fun h => absurd h h1)
      simp (disch := omega) only [push_cast, Nat.reduceEqDiff]
      refine finEx (by simp) fun w' _ => NbS.dec (fun h => ⟨⟨by decide, by rw [if_pos hk]; exact .inl rfl⟩, by rw [ht, h]; rfl⟩) (fun h m hm he => ?_)
      rw [ht] at he
      rcases hb m hm with rfl | rfl
      · exact h he.symm
      · exact h1 he.symm
  simp (disch := omega) only [push_cast, Nat.reduceEqDiff]
  rw [V_cond]
  simp (disch := omega) only [push_cast, Nat.reduceEqDiff]
  refine condX_d (fun hk => ?_) (fun hk11 => ?_)
  · simp (disch := omega) only [push_cast, Nat.reduceEqDiff]
    refine callV en_107 (callX_ex (fun w' hw' => floating_walk w' (hl.mono hw' (by simp)) row hlen) (fun v hv => ?_))
    obtain ⟨n, b, rfl, h1, h2⟩ := hv
    simp (disch := omega) only [push_cast, Nat.reduceEqDiff]
    refine finEx (by simp) fun w' _ => ⟨n, b, rfl, fun h => readN_yes ⟨(h1 h).1, by rw [if_neg hk2, if_pos hk]; trivial⟩ (by unfold numT; rw [if_neg hk2, if_neg (by omega), if_pos hk]; exact (h1 h).2), fun h => readN_no fun m hm he => h2 h m hm.1 ?_⟩
    unfold numT at he
    rwa [if_neg hk2, if_neg (by omega), if_pos hk] at he
  simp (disch := omega) only [push_cast, Nat.reduceEqDiff]
  rw [V_cond]
  simp (disch := omega) only [push_cast, Nat.reduceEqDiff]
  refine condX_d (fun hk => ?_) (fun hk10 => ?_)
  · have hin : ∀ m, isNum 10 m ↔ (-9223372036854775808 ≤ m ∧ m < 9223372036854775808) := fun m => ⟨fun h => h.1, fun h => ⟨h, by rw [if_neg (by decide), if_neg (by decide)]; exact ⟨rfl, rfl⟩⟩⟩
    subst hk
    have back : ∀ m, isNum 10 m → numT 10 m = row → Lib.parseUintB 64 row = .ok (unsP m) := fun m hm he => by
      rw [← he, numT_un]
      exact parseU_dec _ (by unfold unsP; omega)
    simp (disch := omega) only [push_cast, Nat.reduceEqDiff]
    refine callV en_108 (callX_ex (fun w' hw' => parseUint_walk w' (hl.mono hw' (by simp)) row (by omega)) (fun v hv => ?_))
    obtain ⟨n, n0, n1, ⟨hp, rfl⟩ | ⟨hp, te, pe, rfl⟩⟩ := hv
    · obtain ⟨u, rfl⟩ : ∃ u : Nat, n = u := ⟨n.toNat, by omega⟩
      have hu := uns_wrap (u := u) (by omega)
      simp (disch := omega) only [push_cast, Nat.reduceEqDiff]
      refine Eq.mpr (eq_err_nil _) ?_
      simp (disch := omega) only [push_cast, Nat.reduceEqDiff]
      refine callV en_48 (callX_is (fun w' hw' => formatUint_walk w' (hl.mono hw' (by simp)) u (by omega)) ?_)
      simp (disch := omega) only [push_cast, Nat.reduceEqDiff]
      refine finEx (by simp) fun w' _ => NbS.dec (n := IntKind.i64.wrap u) (fun h => ⟨(hin _).2 ?_, by rw [numT_un, hu]; exact h⟩) (fun h m hm he => ?_)
      · rw [show IntKind.i64.wrap (u : Int) = _ from IntKind.wrap_i64 _]
        omega
      · have h1 := back m hm he
        rw [h1] at hp
        have h2 : ((unsP m : Nat) : Int) = u := Option.some.inj hp
        rw [numT_un] at he
        exact h (by rw [show u = unsP m by omega]; exact he)
    · simp (disch := omega) only [push_cast, Nat.reduceEqDiff]
      refine Eq.mpr (eq_err_some _ _ _) ?_
      simp (disch := omega) only [push_cast, Nat.reduceEqDiff]
      refine finEx (by simp) fun w' _ => NbS.no _ fun m hm he => ?_
      rw [back m hm he] at hp
      cases hp
  simp (disch := omega) only [push_cast, Nat.reduceEqDiff]
  refine callV en_82 (callX_is (fun w' _ => whole_walk w' k) ?_)
  simp (disch := omega) only [push_cast, Nat.reduceEqDiff]
  rw [V_cond]
  simp (disch := omega) only [push_cast, Nat.reduceEqDiff]
  refine condX_b (fun hw => ?_) (fun hw => ?_)
  · simp (disch := omega) only [push_cast, Nat.reduceEqDiff]
    refine finEx (by simp) fun w' _ => NbS.no _ fun m hm he => ?_
    have := hm.2
    rw [if_neg hk2, if_neg hk11] at this
    rw [this.1] at hw
    cases hw
  have hwh : wholeP k = true := by simpa using hw
  have hkr : 3 ≤ k ∧ k ≤ 10 := by unfold wholeP at hwh; simpa using hwh
  have ht : ∀ m, numT k m = Lib.itoa m := fun m => by unfold numT; rw [if_neg hk2, if_neg hk10, if_neg hk11]
  have back : ∀ m, isNum k m → numT k m = row → Lib.parseIntB 64 row = .ok m := fun m hm he => by
    rw [← he, ht]
    exact parseI_itoa _ hm.1.1 hm.1.2
  simp (disch := omega) only [push_cast, Nat.reduceEqDiff]
  refine callV en_109 (callX_ex (fun w' hw' => parseInt_walk w' (hl.mono hw' (by simp)) row (by omega)) (fun v hv => ?_))
  obtain ⟨n, n0, n1, ⟨hp, rfl⟩ | ⟨hp, te, pe, rfl⟩⟩ := hv
  · simp (disch := omega) only [push_cast, Nat.reduceEqDiff]
    refine Eq.mpr (eq_err_nil _) ?_
    simp (disch := omega) only [push_cast, Nat.reduceEqDiff]
    refine callV en_54 (callX_is (fun w' hw' => formatInt_walk w' (hl.mono hw' (by simp)) n n0 n1) ?_)
    simp (disch := omega) only [push_cast, Nat.reduceEqDiff]
    refine guardX_t rfl (fun he => ?_) (fun hne => ?_)
    · simp (disch := omega) only [push_cast, Nat.reduceEqDiff]
      refine callV en_83 (callX_is (fun w' _ => ranged_walk w' k n hkr) ?_)
      simp (disch := omega) only [push_cast, Nat.reduceEqDiff]
      refine finEx (by simp) fun w' _ => ⟨n, _, rfl, fun h => readN_yes ⟨⟨n0, n1⟩, by rw [if_neg hk2, if_neg hk11]; exact ⟨hwh, h⟩⟩ (by rw [ht]; exact he), fun h => readN_no fun m hm h3 => ?_⟩
      rw [back m hm h3] at hp
      have e2 : m = n := Option.some.inj hp
      have := hm.2
      rw [if_neg hk2, if_neg hk11, e2, h] at this
      exact absurd this.2 (by decide)
    · simp (disch := omega) only [push_cast, Nat.reduceEqDiff]
      refine finEx (by simp) fun w' _ => NbS.no _ fun m hm h3 => ?_
      rw [back m hm h3] at hp
      have e2 : m = n := Option.some.inj hp
      rw [ht, e2] at h3
      exact hne h3
  · simp (disch := omega) only [push_cast, Nat.reduceEqDiff]
    refine Eq.mpr (eq_err_some _ _ _) ?_
    simp (disch := omega) only [push_cast, Nat.reduceEqDiff]
    refine finEx (by simp) fun w' _ => NbS.no _ fun m hm he => ?_
    rw [back m hm he] at hp
    cases hp
end Go.Proofs.YtilejcofleeeiaaGreatDoor
namespace Go.K
open Go
/-- Two lists of blocks are a turn of each other, if all sums over them are alike. -/
def wt (f : Nat × Obj → Nat) : Own → Nat
  | [] => 0
  | x :: l => f x + wt f l
theorem wt_nil (f : Nat × Obj → Nat) : wt f [] = 0 := rfl
theorem wt_cons (f : Nat × Obj → Nat) (x : Nat × Obj) (l : Own) : wt f (x :: l) = f x + wt f l := rfl
theorem wt_append (f : Nat × Obj → Nat) : ∀ l m : Own, wt f (l ++ m) = wt f l + wt f m
  | [], m => by rw [wt_nil, Nat.zero_add]; rfl
  | x :: l, m => by rw [List.cons_append, wt_cons, wt_cons, wt_append f l m, Nat.add_assoc]
open Classical in
theorem wt_count (a : Nat × Obj) : ∀ l : Own, wt (fun x => if x = a then 1 else 0) l = l.count a
  | [] => by simp [wt_nil]
  | x :: l => by rw [wt_cons, wt_count a l, List.count_cons, Nat.add_comm]; simp
open Classical in
theorem permC {l m : Own} (h : ∀ f : Nat × Obj → Nat, wt f l = wt f m) : l.Perm m := List.perm_iff_count.2 fun a => by rw [← wt_count, ← wt_count, h]
end Go.K
