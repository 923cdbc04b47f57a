/- YtilejcofleeeiaaGreatDoor: plain: texts that are read as values. -/
import Derived.Lib.ValidLaws
import Derived.Test.YtilejcofleeeiaaGreatDoorW211
namespace Go.Proofs.YtilejcofleeeiaaGreatDoor
open Go Go.K
set_option maxRecDepth 100000
set_option linter.unusedVariables false
set_option linter.unusedSimpArgs false
set_option maxHeartbeats 4000000
def sizeU (b : Nat) : Nat := if b < 128 then 1 else if b < 194 then 0 else if b < 224 then 2 else if b < 240 then 3 else if b < 245 then 4 else 0
def lowU (b : Nat) : Nat := if b = 224 then 160 else if b = 240 then 144 else 128
def highU (b : Nat) : Nat := if b = 237 then 159 else if b = 244 then 143 else 191
theorem lead_tab : ∀ b : Fin 256, 128 ≤ b.val → (194 ≤ b.val ∧ b.val < 245 → Lib.firstT b.val % 8 = sizeU b.val ∧ Lib.accLo (Lib.firstT b.val / 16) = lowU b.val ∧ Lib.accHi (Lib.firstT b.val / 16) = highU b.val) ∧ (¬ (194 ≤ b.val ∧ b.val < 245) → ¬ Lib.firstT b.val % 8 = 2 ∧ ¬ Lib.firstT b.val % 8 = 3 ∧ ¬ Lib.firstT b.val % 8 = 4) := by decide +kernel
/-- How many bytes the letter has that begins a text; 0: none does. -/
def utf8P (l : List UInt8) : Nat :=
  if l = [] then 0 else if (l.getD 0 0).toNat < 128 then 1 else
  if sizeU (l.getD 0 0).toNat = 0 then 0 else
  if l.length < sizeU (l.getD 0 0).toNat ∨ (l.getD 1 0).toNat < lowU (l.getD 0 0).toNat ∨ highU (l.getD 0 0).toNat < (l.getD 1 0).toNat then 0 else
  if ∃ i, i < sizeU (l.getD 0 0).toNat ∧ 2 ≤ i ∧ ((l.getD i 0).toNat < 128 ∨ 191 < (l.getD i 0).toNat) then 0 else sizeU (l.getD 0 0).toNat
theorem sizeU_ways (b : Nat) : sizeU b = 0 ∨ sizeU b = 1 ∨ sizeU b = 2 ∨ sizeU b = 3 ∨ sizeU b = 4 := by unfold sizeU; (repeat' split) <;> omega
theorem valid_step (l : List UInt8) (hl : l ≠ []) : Lib.validD l = (if utf8P l = 0 then false else Lib.validD (l.drop (utf8P l))) ∧ utf8P l ≤ l.length := by
  have hlen : 0 < l.length := List.length_pos_iff.2 hl
  by_cases h0 : (l.getD 0 0).toNat < 128
  · have hu : utf8P l = 1 := by unfold utf8P; rw [if_neg hl, if_pos h0]
    rw [hu]
    obtain ⟨b, t, rfl⟩ := List.exists_cons_of_ne_nil hl
    exact ⟨by rw [if_neg (by omega)]; exact Lib.validD_cons b t (by simpa using h0), hlen⟩
  · obtain ⟨t1, t2⟩ := lead_tab ⟨(l.getD 0 0).toNat, (l.getD 0 0).toNat_lt⟩ (by simp only; omega)
    simp only at t1 t2
    rw [Lib.validD_lead l hl (by omega)]
    by_cases hr : 194 ≤ (l.getD 0 0).toNat ∧ (l.getD 0 0).toNat < 245
    · obtain ⟨q1, q2, q3⟩ := t1 hr
      rw [q1, q2, q3]
      have hs : sizeU (l.getD 0 0).toNat = 2 ∨ sizeU (l.getD 0 0).toNat = 3 ∨ sizeU (l.getD 0 0).toNat = 4 := by unfold sizeU; (repeat' split) <;> omega
      have hu : utf8P l = if l.length < sizeU (l.getD 0 0).toNat ∨ (l.getD 1 0).toNat < lowU (l.getD 0 0).toNat ∨ highU (l.getD 0 0).toNat < (l.getD 1 0).toNat then 0 else if ∃ i, i < sizeU (l.getD 0 0).toNat ∧ 2 ≤ i ∧ ((l.getD i 0).toNat < 128 ∨ 191 < (l.getD i 0).toNat) then 0 else sizeU (l.getD 0 0).toNat := by
        unfold utf8P; rw [if_neg hl, if_neg h0, if_neg (show ¬ sizeU (l.getD 0 0).toNat = 0 by omega)]
      clear t1 t2 q1 q2 q3
      generalize lowU (l.getD 0 0).toNat = lo at hu ⊢
      generalize highU (l.getD 0 0).toNat = hi at hu ⊢
      generalize sizeU (l.getD 0 0).toNat = sz at hu hs ⊢
      unfold Lib.checkN
      by_cases c1 : l.length < sz ∨ (l.getD 1 0).toNat < lo ∨ hi < (l.getD 1 0).toNat
      · rw [if_pos c1] at hu
        rw [hu, if_pos rfl]
        refine ⟨?_, Nat.zero_le _⟩
        rcases hs with rfl | rfl | rfl
        · rw [if_pos rfl, if_pos (by omega)]
        · rw [if_neg (by omega), if_pos rfl, if_pos (by omega)]
        · rw [if_neg (by omega), if_neg (by omega), if_pos rfl, if_pos (by omega)]
      · rw [if_neg c1] at hu
        by_cases c2 : ∃ i, i < sz ∧ 2 ≤ i ∧ ((l.getD i 0).toNat < 128 ∨ 191 < (l.getD i 0).toNat)
        · rw [if_pos c2] at hu
          rw [hu, if_pos rfl]
          refine ⟨?_, Nat.zero_le _⟩
          obtain ⟨i, i1, i2, i3⟩ := c2
          rcases hs with rfl | rfl | rfl
          · omega
          · obtain rfl : i = 2 := by omega
            rw [if_neg (by omega), if_pos rfl, if_pos (by omega)]
          · rw [if_neg (by omega), if_neg (by omega), if_pos rfl, if_pos (by rcases (show i = 2 ∨ i = 3 by omega) with rfl | rfl <;> omega)]
        · rw [if_neg c2] at hu
          have c3 : ∀ i, i < sz → 2 ≤ i → ¬ ((l.getD i 0).toNat < 128 ∨ 191 < (l.getD i 0).toNat) := fun i i1 i2 i3 => c2 ⟨i, i1, i2, i3⟩
          rw [hu, if_neg (show ¬ sz = 0 by omega)]
          refine ⟨?_, by omega⟩
          rcases hs with rfl | rfl | rfl
          · rw [if_pos rfl, if_neg (by omega)]
          · have := c3 2 (by omega) (by omega)
            rw [if_neg (by omega), if_pos rfl, if_neg (by omega)]
          · have := c3 2 (by omega) (by omega)
            have := c3 3 (by omega) (by omega)
            rw [if_neg (by omega), if_neg (by omega), if_pos rfl, if_neg (by omega)]
    · obtain ⟨q1, q2, q3⟩ := t2 hr
      have hu : utf8P l = 0 := by
        unfold utf8P
        rw [if_neg hl, if_neg h0, if_pos (by unfold sizeU; (repeat' split) <;> omega)]
      rw [hu]
      refine ⟨?_, Nat.zero_le _⟩
      unfold Lib.checkN
      rw [if_neg q1, if_neg q2, if_neg q3]
      rfl
theorem getD_drop (l : List UInt8) (a i : Nat) : (l.drop a).getD i 0 = l.getD (a + i) 0 := by simp [List.getD, List.getElem?_drop]
theorem su0 {b : Nat} (h : 128 ≤ b) (h2 : b < 194 ∨ 245 ≤ b) : sizeU b = 0 := by unfold sizeU; (repeat' split) <;> omega
theorem su2 {b : Nat} (h : 194 ≤ b) (h2 : b < 224) : sizeU b = 2 := by unfold sizeU; (repeat' split) <;> omega
theorem su3 {b : Nat} (h : 224 ≤ b) (h2 : b < 240) : sizeU b = 3 := by unfold sizeU; (repeat' split) <;> omega
theorem su4 {b : Nat} (h : 240 ≤ b) (h2 : b < 245) : sizeU b = 4 := by unfold sizeU; (repeat' split) <;> omega
structure U8I (w0 : World) (l : List UInt8) (at' sz : Nat) (i : Nat) (wb : World) (e : Env) (ds : List Deferred) (L : Own) : Prop where
  hw : wb = w0
  hds : ds = []
  o : L = []
  hi : 2 ≤ i ∧ i ≤ sz
  hr : ∀ j, j < i → 2 ≤ j → ¬ ((l.getD (at' + j) 0).toNat < 128 ∨ 191 < (l.getD (at' + j) 0).toNat)
  h0 : e 0 = str l
  h1 : e 1 = i64 at'
  h8 : e 8 = i64 sz
  h9 : e 9 = i64 i
structure U8A (w0 : World) (l : List UInt8) (at' : Nat) (wb : World) (e : Env) (ds : List Deferred) (L : Own) : Prop where
  hw : wb = w0
  hds : ds = []
  o : L = []
  h0 : e 0 = str l
  h1 : e 1 = i64 at'
  g1 : 128 ≤ (l.getD at' 0).toNat
  g2 : 2 ≤ sizeU (l.getD at' 0).toNat
  h5 : e 5 = .int .u8 (l.getD at' 0).toNat
  h6 : e 6 = .int .u8 128
  h7 : e 7 = .int .u8 191
  h8 : e 8 = i64 (sizeU (l.getD at' 0).toNat)
structure U8B (w0 : World) (l : List UInt8) (at' : Nat) (wb : World) (e : Env) (ds : List Deferred) (L : Own) : Prop where
  hw : wb = w0
  hds : ds = []
  o : L = []
  h0 : e 0 = str l
  h1 : e 1 = i64 at'
  h6 : e 6 = .int .u8 (lowU (l.getD at' 0).toNat : Nat)
  h7 : e 7 = .int .u8 (highU (l.getD at' 0).toNat : Nat)
  h8 : e 8 = i64 (sizeU (l.getD at' 0).toNat)
theorem utf8_walk (w : World) (l : List UInt8) (at' : Nat) (hl : l.length ≤ 4611686018427387904) : Calls Tryz.prog 98 #[str l, i64 at'] w (Rets w (Is (i64 (utf8P (l.drop at') : Nat)))) := by
  refine enterT (args := [str l, i64 at']) Tryz.func98 rfl Tryz.ntmps98 (congrArg Array.toList Tryz.results98) (by kernel_rfl) (by simp) (Sy.refl w) ?_
  simp (disch := omega) only [push_cast, Nat.reduceEqDiff]
  rw [V_cond]
  simp (disch := omega) only [push_cast, Nat.reduceEqDiff]
  refine condX_d (fun h => ?_) (fun h => ?_)
  · simp (disch := omega) only [push_cast, Nat.reduceEqDiff]
    have hu : utf8P (l.drop at') = 0 := by unfold utf8P; rw [if_pos (by rw [List.drop_eq_nil_iff]; omega)]
    exact finIs (by simp) (by rw [hu]; rfl)
  have hne : l.drop at' ≠ [] := fun h0 => by rw [List.drop_eq_nil_iff] at h0; omega
  simp (disch := omega) only [push_cast, Nat.reduceEqDiff]
  have hat : at' < l.length := by omega
  have h0d := getD_drop l at' 0
  have h1d := getD_drop l at' 1
  rw [Nat.add_zero] at h0d
  refine cutV (U8A w l at') ?_ ?_
  ·
    --<
    rw [V_block]
    have u1 : (l.getD at' 0).toNat < 128 → utf8P (l.drop at') = 1 := fun q => by unfold utf8P; rw [if_neg hne, h0d, if_pos q]
    have u0 : 128 ≤ (l.getD at' 0).toNat → sizeU (l.getD at' 0).toNat = 0 → utf8P (l.drop at') = 0 := fun q q2 => by unfold utf8P; rw [if_neg hne, h0d, if_neg (by omega), if_pos q2]
    simp (disch := omega) only [push_cast, Nat.reduceEqDiff]
    repeat' (first | ((first | refine guardX_t rfl (fun h => ?_) (fun h => ?_) | refine guardX_f rfl (fun h => ?_) (fun h => ?_) | refine condX_d (fun h => ?_) (fun h => ?_) | (refine guardX_bt rfl (fun h => ?_) (fun h => ?_) <;> (try subst h)) | (refine guardX_bf rfl (fun h => ?_) (fun h => ?_) <;> (try subst h)) | (refine condX_b (fun h => ?_) (fun h => ?_) <;> (try subst h)) | refine ldOne Shp.eq (by (first | exact mem0 | exact mem1 | exact mem2 | exact mem3 | exact mem4 | exact mem5)) rfl ?_ | refine loadX_agg Shp.eq (by (first | exact mem0 | exact mem1 | exact mem2 | exact mem3 | exact mem4 | exact mem5)) rfl rfl ?_ | refine newI (fun b hb hn => ?_) | refine storeX 0 rfl Siz.eq rfl rfl (by simp [Value.oneCell']) (by simp) ?_ | refine storeX 1 rfl Siz.eq rfl rfl (by simp [Value.oneCell']) (by simp) ?_ | refine storeX 2 rfl Siz.eq rfl rfl (by simp [Value.oneCell']) (by simp) ?_ | refine storeX 3 rfl Siz.eq rfl rfl (by simp [Value.oneCell']) (by simp) ?_ | refine storeX 4 rfl Siz.eq rfl rfl (by simp [Value.oneCell']) (by simp) ?_ | refine storeX 5 rfl Siz.eq rfl rfl (by simp [Value.oneCell']) (by simp) ?_ | refine storeX 6 rfl Siz.eq rfl rfl (by simp [Value.oneCell']) (by simp) ?_) <;> simp (disch := omega) only [push_cast, Nat.reduceEqDiff]) | (first | rw [V_cond] | rw [V_block]) <;> (try simp (disch := omega) only [push_cast, Nat.reduceEqDiff]))
    all_goals first
      | exact finIs (by simp) (by rw [u1 (by omega)]; rfl)
      | exact finIs (by simp) (by rw [u0 (by omega) (su0 (by omega) (by omega))]; rfl)
      | exact ⟨rfl, rfl, rfl, rfl, rfl, by omega, by rw [su2 (by omega) (by omega)]; exact Nat.le_refl _, rfl, rfl, rfl, by rw [su2 (by omega) (by omega)]; rfl⟩
      | exact ⟨rfl, rfl, rfl, rfl, rfl, by omega, by rw [su3 (by omega) (by omega)]; omega, rfl, rfl, rfl, by rw [su3 (by omega) (by omega)]; rfl⟩
      | exact ⟨rfl, rfl, rfl, rfl, rfl, by omega, by rw [su4 (by omega) (by omega)]; omega, rfl, rfl, rfl, by rw [su4 (by omega) (by omega)]; rfl⟩
    -->
  · rintro wb e ds L ⟨rfl, rfl, rfl, h0, h1, g128, gsz, h5, h6, h7, h8⟩
    simp (disch := omega) only [push_cast, Nat.reduceEqDiff, h0, h1, h5, h6, h7, h8]
    refine cutV (U8B wb l at') ?_ ?_
    · rw [V_block]
      simp (disch := omega) only [push_cast, Nat.reduceEqDiff, h0, h1, h5, h6, h7, h8]
      repeat' (first | ((first | refine guardX_t rfl (fun h => ?_) (fun h => ?_) | refine guardX_f rfl (fun h => ?_) (fun h => ?_) | refine condX_d (fun h => ?_) (fun h => ?_) | (refine guardX_bt rfl (fun h => ?_) (fun h => ?_) <;> (try subst h)) | (refine guardX_bf rfl (fun h => ?_) (fun h => ?_) <;> (try subst h)) | (refine condX_b (fun h => ?_) (fun h => ?_) <;> (try subst h)) | refine ldOne Shp.eq (by (first | exact mem0 | exact mem1 | exact mem2 | exact mem3 | exact mem4 | exact mem5)) rfl ?_ | refine loadX_agg Shp.eq (by (first | exact mem0 | exact mem1 | exact mem2 | exact mem3 | exact mem4 | exact mem5)) rfl rfl ?_ | refine newI (fun b hb hn => ?_) | refine storeX 0 rfl Siz.eq rfl rfl (by simp [Value.oneCell']) (by simp) ?_ | refine storeX 1 rfl Siz.eq rfl rfl (by simp [Value.oneCell']) (by simp) ?_ | refine storeX 2 rfl Siz.eq rfl rfl (by simp [Value.oneCell']) (by simp) ?_ | refine storeX 3 rfl Siz.eq rfl rfl (by simp [Value.oneCell']) (by simp) ?_ | refine storeX 4 rfl Siz.eq rfl rfl (by simp [Value.oneCell']) (by simp) ?_ | refine storeX 5 rfl Siz.eq rfl rfl (by simp [Value.oneCell']) (by simp) ?_ | refine storeX 6 rfl Siz.eq rfl rfl (by simp [Value.oneCell']) (by simp) ?_) <;> simp (disch := omega) only [push_cast, Nat.reduceEqDiff, h0, h1, h5, h6, h7, h8]) | (first | rw [V_cond] | rw [V_block]) <;> (try simp (disch := omega) only [push_cast, Nat.reduceEqDiff, h0, h1, h5, h6, h7, h8]))
      all_goals
        refine ⟨rfl, rfl, rfl, h0, h1, ?_, ?_, h8⟩
        all_goals first
          | exact h6.trans (congrArg (Value.int .u8) (by unfold lowU; (repeat' split) <;> omega))
          | exact h7.trans (congrArg (Value.int .u8) (by unfold highU; (repeat' split) <;> omega))
          | exact congrArg (Value.int .u8) (by unfold lowU; (repeat' split) <;> omega)
          | exact congrArg (Value.int .u8) (by unfold highU; (repeat' split) <;> omega)
    · clear h0 h1 h5 h6 h7 h8 e
      rintro wb e ds L ⟨rfl, rfl, rfl, h0, h1, h6, h7, h8⟩
      have hu : utf8P (l.drop at') = if l.length - at' < sizeU (l.getD at' 0).toNat ∨ (l.getD (at' + 1) 0).toNat < lowU (l.getD at' 0).toNat ∨ highU (l.getD at' 0).toNat < (l.getD (at' + 1) 0).toNat then 0 else if ∃ i, i < sizeU (l.getD at' 0).toNat ∧ 2 ≤ i ∧ ((l.getD (at' + i) 0).toNat < 128 ∨ 191 < (l.getD (at' + i) 0).toNat) then 0 else sizeU (l.getD at' 0).toNat := by
        unfold utf8P; rw [if_neg hne, h0d, h1d, if_neg (by omega), if_neg (show ¬ sizeU (l.getD at' 0).toNat = 0 by omega)]
        simp only [getD_drop, List.length_drop]
      have hs4 : sizeU (l.getD at' 0).toNat ≤ 4 := by have := sizeU_ways (l.getD at' 0).toNat; omega
      generalize lowU (l.getD at' 0).toNat = lo at hu h6
      generalize highU (l.getD at' 0).toNat = hi at hu h7
      generalize sizeU (l.getD at' 0).toNat = sz at hu h8 gsz hs4
      simp (disch := omega) only [push_cast, Nat.reduceEqDiff, h0, h1, h6, h7, h8]
      refine guardX_f rfl (fun c1 => ?_) (fun c1 => ?_)
      rotate_left
      · simp (disch := omega) only [push_cast, Nat.reduceEqDiff, h0, h1, h6, h7, h8]
        rw [V_cond]
        simp (disch := omega) only [push_cast, Nat.reduceEqDiff, h0, h1, h6, h7, h8]
        exact finIs (by simp) (by rw [hu, if_pos (.inl (by omega))]; rfl)
      simp (disch := omega) only [push_cast, Nat.reduceEqDiff, h0, h1, h6, h7, h8]
      refine guardX_f rfl (fun c2 => ?_) (fun c2 => ?_)
      rotate_left
      · simp (disch := omega) only [push_cast, Nat.reduceEqDiff, h0, h1, h6, h7, h8]
        rw [V_cond]
        simp (disch := omega) only [push_cast, Nat.reduceEqDiff, h0, h1, h6, h7, h8]
        rw [show ((at' : Int) + 1).toNat = at' + 1 by omega] at c2
        exact finIs (by simp) (by rw [hu, if_pos (.inr (.inl (by omega)))]; rfl)
      simp (disch := omega) only [push_cast, Nat.reduceEqDiff, h0, h1, h6, h7, h8]
      rw [V_cond]
      simp (disch := omega) only [push_cast, Nat.reduceEqDiff, h0, h1, h6, h7, h8]
      refine condX_d (fun c3 => ?_) (fun c3 => ?_)
      · simp (disch := omega) only [push_cast, Nat.reduceEqDiff, h0, h1, h6, h7, h8]
        rw [show ((at' : Int) + 1).toNat = at' + 1 by omega] at c3
        exact finIs (by simp) (by rw [hu, if_pos (.inr (.inr (by omega)))]; rfl)
      simp (disch := omega) only [push_cast, Nat.reduceEqDiff, h0, h1, h6, h7, h8]
      rw [show ((at' : Int) + 1).toNat = at' + 1 by omega] at c2 c3
      rw [if_neg (by omega)] at hu
      rw [V_block]
      simp (disch := omega) only [push_cast, Nat.reduceEqDiff, h0, h1, h6, h7, h8]
      refine loopW (G := Nat) (U8I wb l at' sz) (fun i => sz - i) 2 _ (fun w hw => hw) (by kernel_rfl) ⟨rfl, rfl, rfl, by omega, fun j j1 j2 => by omega, h0, h1, h8, rfl⟩ ?_
      clear h0 h1 h6 h7 h8 e
      rintro i wb e ds L ⟨rfl, rfl, rfl, hi2, hr, h0, h1, h8, h9⟩
      simp (disch := omega) only [push_cast, Nat.reduceEqDiff, h0, h1, h8, h9]
      rw [V_cond]
      simp (disch := omega) only [push_cast, Nat.reduceEqDiff, h0, h1, h8, h9]
      refine condX_d (fun hlt => ?_) (fun hge => ?_)
      rotate_left
      · obtain rfl : i = sz := by omega
        simp (disch := omega) only [push_cast, Nat.reduceEqDiff, h0, h1, h8, h9]
        exact finIs (by simp) (by rw [hu, if_neg (fun ⟨j, j1, j2, j3⟩ => hr j j1 j2 j3)])
      simp (disch := omega) only [push_cast, Nat.reduceEqDiff, h0, h1, h8, h9]
      rw [V_block]
      simp (disch := omega) only [push_cast, Nat.reduceEqDiff, h0, h1, h8, h9]
      have et : ((at' : Int) + i).toNat = at' + i := by omega
      refine guardX_f rfl (fun q1 => ?_) (fun q1 => ?_)
      rotate_left
      · simp (disch := omega) only [push_cast, Nat.reduceEqDiff, h0, h1, h8, h9]
        rw [V_cond]
        simp (disch := omega) only [push_cast, Nat.reduceEqDiff, h0, h1, h8, h9]
        rw [et] at q1
        exact finIs (by simp) (by rw [hu, if_pos ⟨i, by omega, by omega, .inl (by omega)⟩]; rfl)
      simp (disch := omega) only [push_cast, Nat.reduceEqDiff, h0, h1, h8, h9]
      rw [V_cond]
      simp (disch := omega) only [push_cast, Nat.reduceEqDiff, h0, h1, h8, h9]
      refine condX_d (fun q2 => ?_) (fun q2 => ?_)
      · simp (disch := omega) only [push_cast, Nat.reduceEqDiff, h0, h1, h8, h9]
        rw [et] at q1 q2
        exact finIs (by simp) (by rw [hu, if_pos ⟨i, by omega, by omega, .inr (by omega)⟩]; rfl)
      · simp (disch := omega) only [push_cast, Nat.reduceEqDiff, h0, h1, h8, h9]
        rw [et] at q1 q2
        refine ⟨i + 1, _, fun w hw => hw, ⟨rfl, rfl, rfl, by omega, fun j j1 j2 => ?_, h0, h1, h8, by simp only [upd]; rfl⟩, by omega⟩
        by_cases hj : j < i
        · exact hr j hj j2
        · obtain rfl : j = i := by omega
          omega
structure LeI (w0 : World) (l : List UInt8) (i : Nat) (wb : World) (e : Env) (ds : List Deferred) (L : Own) : Prop where
  hw : wb = w0
  hds : ds = []
  o : L = []
  hi : i ≤ l.length
  hr : Lib.validD (l.drop i) = Lib.validD l
  h0 : e 0 = str l
  h3 : e 3 = i64 i
theorem letters_walk (w : World) (l : List UInt8) (hl : l.length ≤ 4611686018427387904) : Calls Tryz.prog 110 #[str l] w (Rets w (Is (.bool (Lib.validD l)))) := by
  refine enterT (args := [str l]) Tryz.func110 rfl Tryz.ntmps110 (congrArg Array.toList Tryz.results110) (by kernel_rfl) (by simp) (Sy.refl w) ?_
  simp (disch := omega) only [push_cast, Nat.reduceEqDiff]
  rw [V_block]
  simp (disch := omega) only [push_cast, Nat.reduceEqDiff]
  refine loopW (G := Nat) (LeI w l) (fun i => l.length - i) 0 _ (fun w hw => hw) (by kernel_rfl) ⟨rfl, rfl, rfl, by omega, rfl, rfl, rfl⟩ ?_
  rintro i wb e ds L ⟨rfl, rfl, rfl, hi, hr, h0, h3⟩
  simp (disch := omega) only [push_cast, Nat.reduceEqDiff, h0, h3]
  rw [V_cond]
  simp (disch := omega) only [push_cast, Nat.reduceEqDiff, h0, h3]
  refine condX_d (fun hlt => ?_) (fun hge => ?_)
  rotate_left
  · obtain rfl : i = l.length := by omega
    simp (disch := omega) only [push_cast, Nat.reduceEqDiff, h0, h3]
    exact finIs (by simp) (by rw [← hr, List.drop_length]; rfl)
  simp (disch := omega) only [push_cast, Nat.reduceEqDiff, h0, h3]
  rw [V_block]
  simp (disch := omega) only [push_cast, Nat.reduceEqDiff, h0, h3]
  refine callV en_98 (callX_is (fun w' hw' => utf8_walk w' l i hl) ?_)
  obtain ⟨v1, v2⟩ := valid_step (l.drop i) (by intro h; rw [List.drop_eq_nil_iff] at h; omega)
  rw [List.length_drop] at v2
  generalize utf8P (l.drop i) = k at v1 v2 ⊢
  simp (disch := omega) only [push_cast, Nat.reduceEqDiff, h0, h3]
  rw [V_cond]
  simp (disch := omega) only [push_cast, Nat.reduceEqDiff, h0, h3]
  refine condX_d (fun hz => ?_) (fun hz => ?_)
  · simp (disch := omega) only [push_cast, Nat.reduceEqDiff, h0, h3]
    exact finIs (by simp) (by rw [← hr, v1, if_pos (by omega)])
  · simp (disch := omega) only [push_cast, Nat.reduceEqDiff, h0, h3]
    refine ⟨i + k, _, fun w hw => hw, ⟨rfl, rfl, rfl, by omega, ?_, h0, by simp only [upd]; rfl⟩, by omega⟩
    rw [← hr, v1, if_neg (by omega), List.drop_drop]
end Go.Proofs.YtilejcofleeeiaaGreatDoor
namespace Go.Proofs.YtilejcofleeeiaaGreatDoor
open Go Go.K
set_option maxRecDepth 100000
set_option linter.unusedVariables false
set_option linter.unusedSimpArgs false
/-- How a reading ends: with an error and its place; or with what was read, and the place behind it. -/
inductive PV (α : Type) where
  | no (e : Int) (q : Nat)
  | ok (x : α) (q : Nat)
def PV.and {α β : Type} : PV α → (α → Nat → PV β) → PV β
  | .no e q, _ => .no e q
  | .ok x q, f => f x q
theorem PV.and_no {α β : Type} (e : Int) (q : Nat) (f : α → Nat → PV β) : PV.and (.no e q) f = .no e q := rfl
theorem PV.and_ok {α β : Type} (x : α) (q : Nat) (f : α → Nat → PV β) : PV.and (.ok x q) f = f x q := rfl
theorem PV.and_and {α β γ : Type} (r : PV α) (f : α → Nat → PV β) (g : β → Nat → PV γ) : (r.and f).and g = r.and fun x q => (f x q).and g := by cases r <;> rfl
theorem PV.and_eq_ok {α β : Type} {r : PV α} {f : α → Nat → PV β} {y : β} {q : Nat} (h : r.and f = .ok y q) : ∃ x p, r = .ok x p ∧ f x p = .ok y q := by
  cases r with
  | no e p => cases h
  | ok x p => exact ⟨x, p, rfl, h⟩
/-- These bytes must stand here. -/
def mustV (s t : List UInt8) (q : Nat) : PV Unit := if t.isPrefixOf (s.drop q) then .ok () (q + t.length) else .no 8 q
/-- The byte for which the escape stands that begins a text, and its length. -/
def escR (l : List UInt8) : Option (UInt8 × Nat) := ((List.range 128).find? fun c => !(escP (UInt8.ofNat c)).isEmpty && (escP (UInt8.ofNat c)).isPrefixOf l).map fun c => (UInt8.ofNat c, (escP (UInt8.ofNat c)).length)
/-- The rest of a text, up to its end. -/
def restV (s : List UInt8) : Nat → Nat → PV (List UInt8)
  | 0, q => .no 8 q
  | m + 1, q => match s[q]? with
    | none => .no 8 q
    | some c => if c.toNat = 34 then .ok [] (q + 1)
      else if c.toNat = 92 then (match escR (s.drop q) with | none => .no 8 q | some (x, n) => (restV s m (q + n)).and fun l r => .ok (x :: l) r)
      else if escP c ≠ [] ∨ utf8P (s.drop q) = 0 then .no 8 q
      else (restV s m (q + utf8P (s.drop q))).and fun l r => .ok ((s.drop q).take (utf8P (s.drop q)) ++ l) r
def quoteV (s : List UInt8) (q : Nat) : PV (List UInt8) := (mustV s [34] q).and fun _ r => restV s (s.length + 1) r
/-- What a digit of base sixteen is worth. -/
def digV (c : UInt8) : Option Nat := if 48 ≤ c.toNat ∧ c.toNat ≤ 57 then some (c.toNat - 48) else if 97 ≤ c.toNat ∧ c.toNat ≤ 102 then some (c.toNat - 87) else none
def digAt (s : List UInt8) (q : Nat) : PV Nat := match (s[q]?).bind digV with
  | none => .no 8 q
  | some d => .ok d (q + 1)
def hexV (s : List UInt8) : Nat → Nat → PV (List UInt8)
  | 0, q => .no 8 q
  | m + 1, q => if s[q]? = some 34 then .ok [] (q + 1) else (digAt s q).and fun a r => (digAt s r).and fun b r2 => (hexV s m r2).and fun l r3 => .ok (UInt8.ofNat (16 * a + b) :: l) r3
def rawV (s : List UInt8) (q : Nat) : PV (List UInt8) := (mustV s [120, 34] q).and fun _ r => hexV s (s.length + 1) r
/-- The items of a list or a span. -/
def itemsV (s : List UInt8) (k wd : Int) (R : Nat → PV Vl) : Nat → Nat → Nat → PV (List Vl)
  | 0, _, q => .no 8 q
  | m + 1, i, q => if k = 16 ∧ (i : Int) = wd then (mustV s [93] q).and fun _ r => .ok [] r
    else if k = 15 ∧ s[q]? = some 93 then .ok [] (q + 1)
    else ((if i = 0 then .ok () q else mustV s [44] q : PV Unit)).and fun _ r => if k = 15 ∧ i = 4096 then .no 3 r else (R r).and fun v r2 => (itemsV s k wd R m (i + 1) r2).and fun l r3 => .ok (v :: l) r3
/-- The children of a struct. -/
def kidsV (s : List UInt8) (R : Fld → Nat → PV Vl) : Bool → List Fld → Nat → PV (List Vl)
  | _, [], q => (mustV s [125] q).and fun _ r => .ok [] r
  | first, g :: l, q => ((if first then .ok () q else mustV s [44] q : PV Unit)).and fun _ r => (mustV s (g.nm ++ [58]) r).and fun _ r => (R g r).and fun v r => (kidsV s R false l r).and fun vs r => .ok (v :: vs) r
/-- Digits, small letters, minus signs; what names are made of. -/
def smallB (c : UInt8) : Bool := decide (48 ≤ c.toNat ∧ c.toNat ≤ 57 ∨ 97 ≤ c.toNat ∧ c.toNat ≤ 122 ∨ c.toNat = 45)
def nameB (c : UInt8) : Bool := decide (letterP c.toNat)
/-- Does a child's name go on with the byte there? -/
def opensB (s : List UInt8) (q : Nat) : Bool := match s[q]? with
  | none => false
  | some c => decide (c.toNat = 40) || nameB c
def choiceV (s : List UInt8) (R : Fld → Nat → PV Vl) (l : List Fld) (q : Nat) : PV Vl :=
  match l.findIdx? (fun g => g.nm == rowP nameB s q), l.find? (fun g => g.nm == rowP nameB s q) with
  | some i, some g => (mustV s [40] (runP nameB s q)).and fun _ r => (R g r).and fun v r => (mustV s [41] r).and fun _ r => .ok (.mk false i [] [v]) r
  | _, _ => .no 8 q
/-- A value of a field that may be. -/
noncomputable def readV (s : List UInt8) : Nat → Fld → Nat → PV Vl
  | 0, _, q => .no 8 q
  | d + 1, f, q =>
    if letsP f = true ∧ rowP smallB s q = nullT ∧ opensB s (q + 4) = false then .ok (.mk true 0 [] []) (q + 4)
    else if f.k = 19 ∨ f.k = 20 then (match f.sub[0]? with | some g => readV s d g q | none => .no 8 q)
    else if f.k = 12 then (quoteV s q).and fun t r => .ok (.mk false 0 t []) r
    else if f.k = 13 then (rawV s q).and fun t r => .ok (.mk false 0 t []) r
    else if f.k = 14 then (rawV s q).and fun t r => if (t.length : Int) = f.wd then .ok (.mk false 0 t []) r else .no 8 q
    else if f.k = 15 ∨ f.k = 16 then (mustV s [91] q).and fun _ r => (itemsV s f.k f.wd (fun r => match f.sub[0]? with | some g => readV s d g r | none => .no 8 r) 4200 0 r).and fun l r => .ok (.mk false 0 [] l) r
    else if f.k = 17 then (mustV s [123] q).and fun _ r => (kidsV s (readV s d) true f.sub r).and fun l r => .ok (.mk false 0 [] l) r
    else if f.k = 18 then choiceV s (readV s d) f.sub q
    else match readN f.k (rowP smallB s q) with
      | some n => .ok (.mk false n [] []) (runP smallB s q)
      | none => .no 8 q
/-- What Parse answers. -/
noncomputable def parseVP (f : Fld) (s : List UInt8) : Vl × Int × Nat :=
  if mayD f = false then (.mk false 0 [] [], 5, 0) else if 65536 < s.length then (.mk false 0 [] [], 4, 0) else
  match readV s 64 f 0 with
  | .no e q => (.mk false 0 [] [], e, q)
  | .ok v q => if q < s.length then (.mk false 0 [] [], 8, q) else (v, 0, 0)
def printP (f : Fld) (v : Vl) : List UInt8 × Int :=
  if fitsP f v ≠ 0 then ([], fitsP f v) else if 65536 < (showV 64 f v).length then ([], 4) else (showV 64 f v, 0)
end Go.Proofs.YtilejcofleeeiaaGreatDoor
