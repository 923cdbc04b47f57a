/- YtdmdgkpjjpijdaaDoor: walks, part 44: a note's text: quoted, the program's. -/
import Derived.Test.YtdmdgkpjjpijdaaDoorW41
namespace Go.Proofs.YtdmdgkpjjpijdaaDoor
open Go Go.K
set_option maxRecDepth 100000
set_option linter.unusedVariables false
set_option linter.unusedSimpArgs false
set_option maxHeartbeats 4000000
def hexL : List UInt8 := [48, 49, 50, 51, 52, 53, 54, 55, 56, 57, 97, 98, 99, 100, 101, 102]
def hexB (n : Nat) : UInt8 := hexL.getD n 0
def escB (c : UInt8) : List UInt8 := if c = 34 ∨ c = 92 then [92, c] else if 32 ≤ c.toNat ∧ c.toNat ≤ 126 then [c] else [92, 120, hexB (c.toNat / 16), hexB (c.toNat % 16)]
def escL (s : List UInt8) : List UInt8 := s.flatMap escB
def quoteP (s : List UInt8) : List UInt8 := [34] ++ (escL s ++ [34])
theorem escB_le (c : UInt8) : (escB c).length ≤ 4 := by unfold escB; split <;> (try split) <;> simp
theorem escL_le : ∀ s : List UInt8, (escL s).length ≤ 4 * s.length
  | [] => by simp [escL]
  | c :: s => by
    have h1 := escB_le c
    have h2 := escL_le s
    simp only [escL, List.flatMap_cons, List.length_append, List.length_cons] at h2 ⊢
    omega
theorem escL_take (s : List UInt8) (i : Nat) (c : UInt8) (hc : s[i]? = some c) : escL (s.take (i + 1)) = escL (s.take i) ++ escB c := by
  unfold escL
  rw [List.take_add_one, hc, Option.toList_some, List.flatMap_append]
  simp
theorem escL_len (s : List UInt8) (i : Nat) : (escL (s.take i)).length ≤ 4 * s.length := by
  have h1 := escL_le (s.take i)
  have h2 : (s.take i).length ≤ s.length := List.length_take_le' ..
  omega
structure QuI (w0 : World) (M : Own) (s : List UInt8) (k : Nat) (xs : List Value) (i : Nat) (wb : World) (e : Env) (ds : List Deferred) (L : Own) : Prop where
  hw : wb = w0
  hds : ds = []
  o : RowO w0 5 1 L M (e 0) (k + 1 + (escL (s.take i)).length) (xs ++ bytesV [34] ++ bytesV (escL (s.take i)))
  il : i ≤ s.length
  h1 : e 1 = str s
  h11 : e 11 = i64 s.length
  h12 : e 12 = i64 i
theorem quoted_walk (wb w : World) (L M : Own) (v : Value) (k : Nat) (xs : List Value) (s : List UInt8) (hw : Sy wb L w) (hM : ∀ p ∈ M, wb.heap.size ≤ p.1) (hro : RowO wb 5 1 L M v k xs) (hk : k + 4 * s.length + 2 ≤ 70368744177664) :
    Calls Tryd.prog 31 #[v, str s] w (fun e w' => ∃ v' L', e = .returned v' ∧ Sy wb L' w' ∧ RowO wb 5 1 L' M v' (k + (quoteP s).length) (xs ++ bytesV (quoteP s))) := by
  refine enterB (args := [v, str s]) Tryd.func31 rfl Tryd.ntmps31 (congrArg Array.toList Tryd.results31) (by kernel_rfl) (by simp) hw ?_
  simp (disch := omega) only [push_cast, Nat.reduceEqDiff]
  refine bs_72_1 (newI fun b8 hb8 hn8 => ?_)
  simp (disch := omega) only [push_cast, Nat.reduceEqDiff]
  refine appendB [34] un_72 infoU8 hro hb8 (by simp only [List.length_cons, List.length_nil]; omega) (fun v2 L2 hro2 => ?_)
  simp (disch := omega) only [push_cast, Nat.reduceEqDiff]
  repeat' (first | ((first | refine guardX_t rfl (fun h => ?_) (fun h => ?_) | refine guardX_f rfl (fun h => ?_) (fun h => ?_) | refine condX_d (fun h => ?_) (fun h => ?_) | (refine guardX_bt rfl (fun h => ?_) (fun h => ?_) <;> (try subst h)) | (refine guardX_bf rfl (fun h => ?_) (fun h => ?_) <;> (try subst h)) | (refine condX_b (fun h => ?_) (fun h => ?_) <;> (try subst h)) | refine ldOne Shp.eq (by (first | exact mem0 | exact mem1 | exact mem2 | exact mem3 | exact mem4 | exact mem5)) rfl ?_ | refine loadX_agg Shp.eq (by (first | exact mem0 | exact mem1 | exact mem2 | exact mem3 | exact mem4 | exact mem5)) rfl rfl ?_ | refine newI (fun b hb hn => ?_) | refine storeX 0 rfl Siz.eq rfl rfl (by simp [Value.oneCell']) (by simp) ?_ | refine storeX 1 rfl Siz.eq rfl rfl (by simp [Value.oneCell']) (by simp) ?_ | refine storeX 2 rfl Siz.eq rfl rfl (by simp [Value.oneCell']) (by simp) ?_ | refine storeX 3 rfl Siz.eq rfl rfl (by simp [Value.oneCell']) (by simp) ?_ | refine storeX 4 rfl Siz.eq rfl rfl (by simp [Value.oneCell']) (by simp) ?_ | refine storeX 5 rfl Siz.eq rfl rfl (by simp [Value.oneCell']) (by simp) ?_ | refine storeX 6 rfl Siz.eq rfl rfl (by simp [Value.oneCell']) (by simp) ?_) <;> simp (disch := omega) only [push_cast, Nat.reduceEqDiff]))
  rw [V_block]
  simp (disch := omega) only [push_cast, Nat.reduceEqDiff]
  obtain ⟨L3, hro3, hs3⟩ := RowO.shrink [_] hro2 (fun p hp => by rw [List.mem_singleton.1 hp]; exact hb8)
  refine loopW (G := Nat) (QuI wb M s k xs) (fun i => s.length - i) 0 L3 hs3 (by kernel_rfl) ⟨rfl, rfl, hro3.cast rfl (by simp [escL, bytesV]), by omega, rfl, rfl, rfl⟩ ?_
  clear hw hro hro2 hro3 hs3
  rintro i wb e ds L ⟨rfl, rfl, hro, hil, h1, h11, h12⟩
  obtain ⟨v0, h0⟩ : ∃ v0, e 0 = v0 := ⟨_, rfl⟩
  rw [h0] at hro
  simp (disch := omega) only [push_cast, Nat.reduceEqDiff, h0, h1, h11, h12]
  rw [V_cond]
  simp (disch := omega) only [push_cast, Nat.reduceEqDiff, h0, h1, h11, h12]
  refine condX_d (fun hlt => ?_) (fun hge => ?_)
  · obtain ⟨c, hc⟩ : ∃ c, s[i]? = some c := ⟨_, List.getElem?_eq_getElem (by omega)⟩
    have hgd : s.getD i 0 = c := by rw [List.getD_eq_getElem?_getD, hc]; rfl
    simp (disch := omega) only [push_cast, Nat.reduceEqDiff, h0, h1, h11, h12]
    rw [V_block]
    simp (disch := omega) only [push_cast, Nat.reduceEqDiff, h0, h1, h11, h12, hgd]
    have htk := escL_take s i c hc
    have hel := escL_len s i
    have hc256 : c.toNat < 256 := UInt8.toNat_lt c
    rw [V_block]
    simp (disch := omega) only [push_cast, Nat.reduceEqDiff, h0, h1, h11, h12]
    refine guardX_f rfl (fun h34 => ?_) (fun h34 => ?_)
    rotate_left
    · have hesc : escB c = [92, c] := by unfold escB; rw [if_pos (.inl (UInt8.toNat_inj.1 (show c.toNat = 34 by omega)))]
      simp (disch := omega) only [push_cast, Nat.reduceEqDiff, h0, h1, h11, h12]
      rw [V_cond]
      simp (disch := omega) only [push_cast, Nat.reduceEqDiff, h0, h1, h11, h12]
      refine bs_72_2 (newI fun b9 hb9 hn9 => ?_)
      simp (disch := omega) only [push_cast, Nat.reduceEqDiff, h0, h1, h11, h12]
      refine appendB [92, c] un_72 infoU8 hro hb9 (by simp only [List.length_cons, List.length_nil]; omega) (fun v5 L5 hro5 => ?_)
      simp (disch := omega) only [push_cast, Nat.reduceEqDiff, h0, h1, h11, h12]
      obtain ⟨L6, hro6, hs6⟩ := RowO.shrink [_] hro5 (fun p hp => by rw [List.mem_singleton.1 hp]; exact hb9)
      exact ⟨i + 1, L6, hs6, ⟨rfl, rfl, hro6.cast (by rw [htk, hesc]; simp only [List.length_append, List.length_cons, List.length_nil]; omega) (by rw [htk, hesc]; simp only [bytesV_append, List.append_assoc]), by omega, h1, h11, by simp only [upd]; rfl⟩, by omega⟩
    simp (disch := omega) only [push_cast, Nat.reduceEqDiff, h0, h1, h11, h12]
    rw [V_cond]
    simp (disch := omega) only [push_cast, Nat.reduceEqDiff, h0, h1, h11, h12]
    refine condX_d (fun h92 => ?_) (fun h92 => ?_)
    · have hesc : escB c = [92, c] := by unfold escB; rw [if_pos (.inr (UInt8.toNat_inj.1 (show c.toNat = 92 by omega)))]
      simp (disch := omega) only [push_cast, Nat.reduceEqDiff, h0, h1, h11, h12]
      refine bs_72_2 (newI fun b9 hb9 hn9 => ?_)
      simp (disch := omega) only [push_cast, Nat.reduceEqDiff, h0, h1, h11, h12]
      refine appendB [92, c] un_72 infoU8 hro hb9 (by simp only [List.length_cons, List.length_nil]; omega) (fun v5 L5 hro5 => ?_)
      simp (disch := omega) only [push_cast, Nat.reduceEqDiff, h0, h1, h11, h12]
      obtain ⟨L6, hro6, hs6⟩ := RowO.shrink [_] hro5 (fun p hp => by rw [List.mem_singleton.1 hp]; exact hb9)
      exact ⟨i + 1, L6, hs6, ⟨rfl, rfl, hro6.cast (by rw [htk, hesc]; simp only [List.length_append, List.length_cons, List.length_nil]; omega) (by rw [htk, hesc]; simp only [bytesV_append, List.append_assoc]), by omega, h1, h11, by simp only [upd]; rfl⟩, by omega⟩
    have hn34 : ¬ (c = 34 ∨ c = 92) := fun h => by
      rcases h with rfl | rfl
      · exact h34 rfl
      · exact h92 rfl
    simp (disch := omega) only [push_cast, Nat.reduceEqDiff, h0, h1, h11, h12]
    refine guardX_t rfl (fun h32 => ?_) (fun h32 => ?_)
    · simp (disch := omega) only [push_cast, Nat.reduceEqDiff, h0, h1, h11, h12]
      rw [V_cond]
      simp (disch := omega) only [push_cast, Nat.reduceEqDiff, h0, h1, h11, h12]
      refine condX_d (fun h126 => ?_) (fun h126 => ?_)
      · have hesc : escB c = [c] := by unfold escB; rw [if_neg hn34, if_pos ⟨by omega, by omega⟩]
        simp (disch := omega) only [push_cast, Nat.reduceEqDiff, h0, h1, h11, h12]
        refine bs_72_1 (newI fun b9 hb9 hn9 => ?_)
        simp (disch := omega) only [push_cast, Nat.reduceEqDiff, h0, h1, h11, h12]
        refine appendB [c] un_72 infoU8 hro hb9 (by simp only [List.length_cons, List.length_nil]; omega) (fun v5 L5 hro5 => ?_)
        simp (disch := omega) only [push_cast, Nat.reduceEqDiff, h0, h1, h11, h12]
        obtain ⟨L6, hro6, hs6⟩ := RowO.shrink [_] hro5 (fun p hp => by rw [List.mem_singleton.1 hp]; exact hb9)
        exact ⟨i + 1, L6, hs6, ⟨rfl, rfl, hro6.cast (by rw [htk, hesc]; simp only [List.length_append, List.length_cons, List.length_nil]; omega) (by rw [htk, hesc]; simp only [bytesV_append, List.append_assoc]), by omega, h1, h11, by simp only [upd]; rfl⟩, by omega⟩
      · have hesc : escB c = [92, 120, hexB (c.toNat / 16), hexB (c.toNat % 16)] := by unfold escB; rw [if_neg hn34, if_neg (by omega)]
        simp (disch := omega) only [push_cast, Nat.reduceEqDiff, h0, h1, h11, h12]
        refine freeT [0, 1, 2, 3, 4, 5, 6] [7, 8, 9] [] (by kernel_rfl) mixed (by kernel_rfl) (Stab.of (List.nil_sublist _) (hro.new hM)) ?_
        simp (disch := omega) only [push_cast, Nat.reduceEqDiff, h0, h1, h11, h12]
        refine Eq.mpr (is_9 hexL .u8 _ (by omega) (show ((c.toNat : Int) / 16) < 16 by omega)) ?_
        simp (disch := omega) only [push_cast, Nat.reduceEqDiff, h0, h1, h11, h12]
        refine Eq.mpr (is_9 hexL .u8 _ (by omega) (show ((c.toNat : Int) % 16) < 16 by omega)) ?_
        simp (disch := omega) only [push_cast, Nat.reduceEqDiff, h0, h1, h11, h12]
        rw [show ((c.toNat : Int) / 16).toNat = c.toNat / 16 by omega, show ((c.toNat : Int) % 16).toNat = c.toNat % 16 by omega]
        refine bs4 (newI fun b9 hb9 hn9 => ?_)
        simp (disch := omega) only [push_cast, Nat.reduceEqDiff, h0, h1, h11, h12]
        have hM9 : ∀ x : Obj, ∀ p ∈ ((b9, x) :: M), wb.heap.size ≤ p.1 := fun x p hp => by
          rcases List.mem_cons.1 hp with rfl | hp
          · exact hb9
          · exact hM p hp
        refine ⟨Stab.of (List.nil_sublist _) (fun p hp => by
          rcases List.mem_cons.1 hp with rfl | hp
          · exact hb9
          · exact hro.new hM p hp), appendB [92, 120, hexB (c.toNat / 16), hexB (c.toNat % 16)] un_72 infoU8 hro hb9 (by simp only [List.length_cons, List.length_nil]; omega) (fun v5 L5 hro5 => ?_)⟩
        simp (disch := omega) only [push_cast, Nat.reduceEqDiff, h0, h1, h11, h12]
        obtain ⟨L6, hro6, hs6⟩ := RowO.shrink [_] hro5 (fun p hp => by rw [List.mem_singleton.1 hp]; exact hb9)
        exact ⟨Stab.of (List.nil_sublist _) (hro5.new (hM9 _)), Stab.of (List.nil_sublist _) (hro5.new (hM9 _)), i + 1, L6, hs6, ⟨rfl, rfl, hro6.cast (by rw [htk, hesc]; simp only [List.length_append, List.length_cons, List.length_nil]; omega) (by rw [htk, hesc]; simp only [bytesV_append, List.append_assoc]), by omega, h1, h11, by simp only [upd]; rfl⟩, by omega⟩
    · simp (disch := omega) only [push_cast, Nat.reduceEqDiff, h0, h1, h11, h12]
      rw [V_cond]
      have hesc : escB c = [92, 120, hexB (c.toNat / 16), hexB (c.toNat % 16)] := by unfold escB; rw [if_neg hn34, if_neg (by omega)]
      simp (disch := omega) only [push_cast, Nat.reduceEqDiff, h0, h1, h11, h12]
      refine freeT [0, 1, 2, 3, 4, 5, 6] [7, 8, 9] [] (by kernel_rfl) mixed (by kernel_rfl) (Stab.of (List.nil_sublist _) (hro.new hM)) ?_
      simp (disch := omega) only [push_cast, Nat.reduceEqDiff, h0, h1, h11, h12]
      refine Eq.mpr (is_9 hexL .u8 _ (by omega) (show ((c.toNat : Int) / 16) < 16 by omega)) ?_
      simp (disch := omega) only [push_cast, Nat.reduceEqDiff, h0, h1, h11, h12]
      refine Eq.mpr (is_9 hexL .u8 _ (by omega) (show ((c.toNat : Int) % 16) < 16 by omega)) ?_
      simp (disch := omega) only [push_cast, Nat.reduceEqDiff, h0, h1, h11, h12]
      rw [show ((c.toNat : Int) / 16).toNat = c.toNat / 16 by omega, show ((c.toNat : Int) % 16).toNat = c.toNat % 16 by omega]
      refine bs4 (newI fun b9 hb9 hn9 => ?_)
      simp (disch := omega) only [push_cast, Nat.reduceEqDiff, h0, h1, h11, h12]
      have hM9 : ∀ x : Obj, ∀ p ∈ ((b9, x) :: M), wb.heap.size ≤ p.1 := fun x p hp => by
        rcases List.mem_cons.1 hp with rfl | hp
        · exact hb9
        · exact hM p hp
      refine ⟨Stab.of (List.nil_sublist _) (fun p hp => by
        rcases List.mem_cons.1 hp with rfl | hp
        · exact hb9
        · exact hro.new hM p hp), appendB [92, 120, hexB (c.toNat / 16), hexB (c.toNat % 16)] un_72 infoU8 hro hb9 (by simp only [List.length_cons, List.length_nil]; omega) (fun v5 L5 hro5 => ?_)⟩
      simp (disch := omega) only [push_cast, Nat.reduceEqDiff, h0, h1, h11, h12]
      obtain ⟨L6, hro6, hs6⟩ := RowO.shrink [_] hro5 (fun p hp => by rw [List.mem_singleton.1 hp]; exact hb9)
      exact ⟨Stab.of (List.nil_sublist _) (hro5.new (hM9 _)), Stab.of (List.nil_sublist _) (hro5.new (hM9 _)), i + 1, L6, hs6, ⟨rfl, rfl, hro6.cast (by rw [htk, hesc]; simp only [List.length_append, List.length_cons, List.length_nil]; omega) (by rw [htk, hesc]; simp only [bytesV_append, List.append_assoc]), by omega, h1, h11, by simp only [upd]; rfl⟩, by omega⟩
  · obtain rfl : i = s.length := by omega
    simp (disch := omega) only [push_cast, Nat.reduceEqDiff, h0, h1, h11, h12]
    refine bs_72_1 (newI fun b9 hb9 hn9 => ?_)
    simp (disch := omega) only [push_cast, Nat.reduceEqDiff, h0, h1, h11, h12]
    have hel := escL_len s s.length
    refine appendB [34] un_72 infoU8 hro hb9 (by simp only [List.length_cons, List.length_nil]; omega) (fun v5 L5 hro5 => ?_)
    simp (disch := omega) only [push_cast, Nat.reduceEqDiff, h0, h1, h11, h12]
    obtain ⟨L6, hro6, hs6⟩ := RowO.shrink [_] hro5 (fun p hp => by rw [List.mem_singleton.1 hp]; exact hb9)
    rw [List.take_length] at hro6
    exact fun w' hw' => ⟨_, L6, rfl, hs6 _ hw', hro6.cast (by unfold quoteP; simp only [List.length_append, List.length_cons, List.length_nil]; omega) (by unfold quoteP; simp only [bytesV_append, List.append_assoc])⟩
end Go.Proofs.YtdmdgkpjjpijdaaDoor
