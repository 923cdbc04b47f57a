/- YtdmdgkpjjpijdaaDoor: walks, part 164: a reader: escapes. -/
import Derived.Test.YtdmdgkpjjpijdaaDoorW163
namespace Go.Proofs.YtdmdgkpjjpijdaaDoor
open Go Go.K
set_option maxRecDepth 100000
set_option linter.unusedVariables false
set_option linter.unusedSimpArgs false
set_option maxHeartbeats 4000000
def hexD : List UInt8 := [48, 49, 50, 51, 52, 53, 54, 55, 56, 57, 97, 98, 99, 100, 101, 102]
theorem index_find (c : UInt8) : ∀ l : List UInt8, Lib.indexByte l c = match l.findIdx? (· == c) with | some i => (i : Int) | none => -1
  | [] => rfl
  | b :: l => by
    rw [Lib.indexByte, List.findIdx?_cons]
    by_cases h : (b == c) = true
    · rw [if_pos h, if_pos h]; rfl
    · rw [if_neg h, if_neg h, index_find c l]
      cases l.findIdx? (· == c) with
      | none => rfl
      | some i =>
        simp only [Option.map_some]
        rw [if_neg (by simp)]
        try rfl
theorem hex_index (c : UInt8) : Lib.indexByte hexD c = match hexV c with | some i => (i : Int) | none => -1 := index_find c hexD
theorem hex_lt {c : UInt8} {n : Nat} (h : hexV c = some n) : n < 16 := by
  have h1 := List.findIdx?_eq_some_iff_getElem.1 h
  obtain ⟨h2, _⟩ := h1
  exact h2
theorem hex_nn {c : UInt8} : 0 ≤ Lib.indexByte hexD c ↔ ∃ n, hexV c = some n := by
  rw [hex_index]
  cases hexV c with
  | none => simp
  | some n => simp
/-- The byte of the escape with which a text begins, and its length. -/
def escT (t : List UInt8) : Option (UInt8 × Nat) :=
  if 2 ≤ t.length ∧ (t.getD 1 0 = 34 ∨ t.getD 1 0 = 92) then some (t.getD 1 0, 2) else if t.length < 4 ∨ t.getD 1 0 ≠ 120 then none
  else match hexV (t.getD 2 0) with
    | none => none
    | some x => match hexV (t.getD 3 0) with
      | none => none
      | some y => some (UInt8.ofNat (16 * x + y), 4)
/-- Is it the beginning of one? -/
def cutT (t : List UInt8) : Bool := decide (t.length < 2) || (decide (t.length < 4) && decide (t.getD 1 0 = 120) && (decide (t.length < 3) || (hexV (t.getD 2 0)).isSome))
theorem esc_eq (s : List UInt8) (p : Nat) (hp : p < s.length) : pEsc s p = match escT (s.drop p) with
    | some x => .ok x.1 (p + x.2)
    | none => .no (if cutT (s.drop p) = true then s.length else p) := by
  have hg : ∀ i, s[p + i]? = (s.drop p)[i]? := fun i => by rw [List.getElem?_drop]
  have hl : (s.drop p).length = s.length - p := List.length_drop ..
  unfold pEsc
  rw [hg 1, hg 2, hg 3]
  generalize s.drop p = t at hl
  match t with
  | [] => simp at hl; omega
  | [a] => simp [escT, cutT]
  | [a, b] =>
    by_cases h1 : b = 34 ∨ b = 92
    · simp [escT, h1]
    · by_cases h2 : b = 120
      · subst h2; simp [escT, cutT]
      · simp [escT, cutT, h1, h2]
  | [a, b, c] =>
    by_cases h1 : b = 34 ∨ b = 92
    · simp [escT, h1]
    · by_cases h2 : b = 120
      · subst h2
        cases hc : hexV c <;> simp [escT, cutT, hc]
      · simp [escT, cutT, h1, h2]
  | a :: b :: c :: d :: r =>
    have l4 : ¬ (r.length + 1 + 1 + 1 + 1 < 4) := by omega
    have l3 : ¬ (r.length + 1 + 1 + 1 + 1 < 3) := by omega
    have l2 : ¬ (r.length + 1 + 1 + 1 + 1 < 2) := by omega
    have m2 : 2 ≤ r.length + 1 + 1 + 1 + 1 := by omega
    by_cases h1 : b = 34 ∨ b = 92
    · simp [escT, h1]
    · by_cases h2 : b = 120
      · subst h2
        cases hc : hexV c with
        | none => simp [escT, cutT, hc, l4, l3, l2]
        | some x =>
          cases hd : hexV d <;> simp [escT, cutT, hc, hd, l4, l3, l2]
      · simp [escT, cutT, h1, h2, l4, l3, l2]
theorem u8_eq {c : UInt8} {n : Nat} (hn : n < 256) : ((c.toNat : Int) = n) = (c = UInt8.ofNat n) := by
  apply propext
  constructor
  · intro h
    have h1 : c.toNat = n := by omega
    rw [← h1]
    exact UInt8.ofNat_toNat.symm
  · intro h
    rw [h, UInt8.toNat_ofNat']
    omega
theorem escaped_walk (w : World) (t : List UInt8) (ht : t.length ≤ 65536) :
    Calls Tryd.prog 56 #[str t] w (Rets w fun v _ => match escT t with
      | some x => v = .tuple #[.int .u8 x.1.toNat, i64 x.2] ∧ 0 < x.2 ∧ x.2 ≤ t.length
      | none => v = .tuple #[.int .u8 0, i64 0]) := by
  refine enterT (args := [str t]) Tryd.func56 rfl Tryd.ntmps56 (congrArg Array.toList Tryd.results56) (by kernel_rfl) (by simp) (Sy.refl w) ?_
  simp (disch := omega) only [push_cast, Nat.reduceEqDiff]
  have q34 : (((t.getD 1 0).toNat : Int) = 34) = (t.getD 1 0 = 34) := u8_eq (by decide)
  have q92 : (((t.getD 1 0).toNat : Int) = 92) = (t.getD 1 0 = 92) := u8_eq (by decide)
  have q120 : (((t.getD 1 0).toNat : Int) = 120) = (t.getD 1 0 = 120) := u8_eq (by decide)
  refine guardX_t rfl (fun h2 => ?_) (fun h2 => ?_)
  · by_cases h34 : t.getD 1 0 = 34
    · have w34 := q34.trans (eq_true h34)
      simp (disch := omega) only [push_cast, Nat.reduceEqDiff, w34, decide_true]
      rw [V_cond]
      simp (disch := omega) only [push_cast, Nat.reduceEqDiff, w34, decide_true]
      have he : escT t = some (t.getD 1 0, 2) := by unfold escT; rw [if_pos ⟨by omega, .inl h34⟩]
      exact finEx (by simp) (fun w' hw' => by rw [he]; exact ⟨rfl, Nat.zero_lt_two, by omega⟩)
    · have w34 := q34.trans (eq_false h34)
      simp (disch := omega) only [push_cast, Nat.reduceEqDiff, w34, decide_false]
      by_cases h92 : t.getD 1 0 = 92
      · have w92 := q92.trans (eq_true h92)
        simp (disch := omega) only [push_cast, Nat.reduceEqDiff, w92, decide_true]
        rw [V_cond]
        simp (disch := omega) only [push_cast, Nat.reduceEqDiff, w92, decide_true]
        have he : escT t = some (t.getD 1 0, 2) := by unfold escT; rw [if_pos ⟨by omega, .inr h92⟩]
        exact finEx (by simp) (fun w' hw' => by rw [he]; exact ⟨rfl, Nat.zero_lt_two, by omega⟩)
      · have w92 := q92.trans (eq_false h92)
        simp (disch := omega) only [push_cast, Nat.reduceEqDiff, w92, decide_false]
        rw [V_cond]
        simp (disch := omega) only [push_cast, Nat.reduceEqDiff, w92, decide_false]
        have n1 : ¬ (2 ≤ t.length ∧ (t.getD 1 0 = 34 ∨ t.getD 1 0 = 92)) := fun ⟨_, h⟩ => h.elim h34 h92
        refine guardX_f rfl (fun h4 => ?_) (fun h4 => ?_)
        rotate_left
        · simp (disch := omega) only [push_cast, Nat.reduceEqDiff]
          rw [V_cond]
          simp (disch := omega) only [push_cast, Nat.reduceEqDiff]
          have he : escT t = none := by unfold escT; rw [if_neg n1, if_pos (.inl (by omega))]
          exact finEx (by simp) (fun w' hw' => by rw [he])
        simp (disch := omega) only [push_cast, Nat.reduceEqDiff]
        by_cases h120 : t.getD 1 0 = 120
        · have w120 := q120.trans (eq_true h120)
          simp (disch := omega) only [push_cast, Nat.reduceEqDiff, w120, ne_eq, not_true_eq_false, decide_false]
          rw [V_cond]
          simp (disch := omega) only [push_cast, Nat.reduceEqDiff, w120, ne_eq, not_true_eq_false, decide_false]
          have n2 : ¬ (t.length < 4 ∨ t.getD 1 0 ≠ 120) := fun h => h.elim (fun h => by omega) (fun h => h h120)
          refine drawQT (by kernel_rfl) (by kernel_rfl) mixed (by kernel_rfl) ?_
          simp (disch := omega) only [push_cast, Nat.reduceEqDiff]
          refine qcallV en_38 (qcallX_is _ (fun w' hw' => indexByte_walk w' hexD (t.getD 2 0)) ?_)
          simp (disch := omega) only [push_cast, Nat.reduceEqDiff]
          refine qcallV en_38 (qcallX_is _ (fun w' hw' => indexByte_walk w' hexD (t.getD 3 0)) ?_)
          simp (disch := omega) only [push_cast, Nat.reduceEqDiff]
          have hnone : ∀ (h : hexV (t.getD 2 0) = none ∨ hexV (t.getD 3 0) = none), escT t = none := fun h => by
            unfold escT
            rw [if_neg n1, if_neg n2]
            rcases h with h | h
            · rw [h]
            · rw [h]; cases hexV (t.getD 2 0) <;> rfl
          cases hc : hexV (t.getD 2 0) with
          | none =>
            have e2 : Lib.indexByte hexD (t.getD 2 0) = -1 := by rw [hex_index, hc]
            rw [e2]
            try simp (disch := omega) only [push_cast, Nat.reduceEqDiff]
            refine guardX_f rfl (fun h => by omega) (fun _ => ?_)
            simp (disch := omega) only [push_cast, Nat.reduceEqDiff]
            rw [V_cond]
            simp (disch := omega) only [push_cast, Nat.reduceEqDiff]
            exact finEx (by simp) (fun w' hw' => by rw [hnone (.inl hc)])
          | some x =>
            have e2 : Lib.indexByte hexD (t.getD 2 0) = (x : Int) := by rw [hex_index, hc]
            have hx := hex_lt hc
            rw [e2]
            try simp (disch := omega) only [push_cast, Nat.reduceEqDiff]
            refine guardX_f rfl (fun _ => ?_) (fun h => by omega)
            cases hd : hexV (t.getD 3 0) with
            | none =>
              have e3 : Lib.indexByte hexD (t.getD 3 0) = -1 := by rw [hex_index, hd]
              rw [e3]
              try simp (disch := omega) only [push_cast, Nat.reduceEqDiff]
              rw [V_cond]
              simp (disch := omega) only [push_cast, Nat.reduceEqDiff]
              refine condX_d (fun _ => ?_) (fun h => absurd (by decide) h)
              simp (disch := omega) only [push_cast, Nat.reduceEqDiff]
              exact finEx (by simp) (fun w' hw' => by rw [hnone (.inr hd)])
            | some y =>
              have e3 : Lib.indexByte hexD (t.getD 3 0) = (y : Int) := by rw [hex_index, hd]
              have hy := hex_lt hd
              rw [e3]
              try simp (disch := omega) only [push_cast, Nat.reduceEqDiff]
              rw [V_cond]
              simp (disch := omega) only [push_cast, Nat.reduceEqDiff]
              refine condX_d (fun h => by omega) (fun _ => ?_)
              simp (disch := omega) only [push_cast, Nat.reduceEqDiff]
              have he : escT t = some (UInt8.ofNat (16 * x + y), 4) := by
                unfold escT
                rw [if_neg n1, if_neg n2, hc, hd]
              have hxy : (UInt8.ofNat (16 * x + y)).toNat = 16 * x + y := by rw [UInt8.toNat_ofNat']; omega
              refine finEx (by simp) (fun w' hw' => ?_)
              rw [he]
              refine ⟨?_, Nat.zero_lt_succ 3, by show 4 ≤ t.length; omega⟩
              simp only [hxy]
              simp
        · have w120 := q120.trans (eq_false h120)
          simp (disch := omega) only [push_cast, Nat.reduceEqDiff, w120, ne_eq, not_false_eq_true, decide_true]
          rw [V_cond]
          simp (disch := omega) only [push_cast, Nat.reduceEqDiff, w120, ne_eq, not_false_eq_true, decide_true]
          have he : escT t = none := by unfold escT; rw [if_neg n1, if_pos (.inr h120)]
          exact finEx (by simp) (fun w' hw' => by rw [he])
  · simp (disch := omega) only [push_cast, Nat.reduceEqDiff]
    rw [V_cond]
    simp (disch := omega) only [push_cast, Nat.reduceEqDiff]
    refine guardX_f rfl (fun h4 => by omega) (fun h4 => ?_)
    simp (disch := omega) only [push_cast, Nat.reduceEqDiff]
    rw [V_cond]
    simp (disch := omega) only [push_cast, Nat.reduceEqDiff]
    have he : escT t = none := by unfold escT; rw [if_neg (by omega), if_pos (by omega)]
    exact finEx (by simp) (fun w' hw' => by rw [he]) 
/-- What is no escape: the place is told. -/
theorem cut_walk (wb w : World) (rb : Nat) (s : List UInt8) (p : Nat) (M : Own) (hs : s.length ≤ 65536) (hp : p < s.length) (hw : Sy wb (oRd rb s p :: M) w) :
    Calls Tryd.prog 57 #[.pointer (some ⟨rb, 0, none⟩)] w (fun e w' => e = .panicked [faultE (if cutT (s.drop p) = true then s.length else p)] ∧ Sy wb (oRd rb s p :: M) w') := by
  refine enterB (args := [.pointer (some ⟨rb, 0, none⟩)]) Tryd.func57 rfl Tryd.ntmps57 (congrArg Array.toList Tryd.results57) (by kernel_rfl) (by simp) hw ?_
  simp (disch := omega) only [push_cast, Nat.reduceEqDiff]
  refine drawQT (by kernel_rfl) (by kernel_rfl) mixed (by kernel_rfl) ?_
  simp (disch := omega) only [push_cast, Nat.reduceEqDiff]
  refine ldOne Shp.eq mem0 rfl ?_
  simp (disch := omega) only [push_cast, Nat.reduceEqDiff]
  refine ldOne Shp.eq mem0 rfl ?_
  simp (disch := omega) only [push_cast, Nat.reduceEqDiff, Int.toNat_natCast]
  have hlen : (s.drop p).length = s.length - p := List.length_drop ..
  generalize s.drop p = t at hlen ⊢
  have q120 : (((t.getD 1 0).toNat : Int) = 120) = (t.getD 1 0 = 120) := u8_eq (by decide)
  refine guardX_f rfl (fun h2 => ?_) (fun h2 => ?_)
  rotate_left
  · have hc : cutT t = true := by simp [cutT, show t.length < 2 by omega]
    simp (disch := omega) only [push_cast, Nat.reduceEqDiff]
    rw [V_cond]
    simp (disch := omega) only [push_cast, Nat.reduceEqDiff]
    refine ldOne Shp.eq mem0 rfl ?_
    simp (disch := omega) only [push_cast, Nat.reduceEqDiff]
    refine callV en_40 (callX_fail s.length ?_)
    simp (disch := omega) only [push_cast, Nat.reduceEqDiff]
    exact fun w' hw' => ⟨by rw [hc, if_pos rfl], hw'⟩
  simp (disch := omega) only [push_cast, Nat.reduceEqDiff]
  refine guardX_t rfl (fun h4 => ?_) (fun h4 => ?_)
  rotate_left
  · have hc : cutT t = false := by simp [cutT, show ¬ t.length < 2 by omega, show ¬ t.length < 4 by omega]
    simp (disch := omega) only [push_cast, Nat.reduceEqDiff]
    rw [V_cond]
    simp (disch := omega) only [push_cast, Nat.reduceEqDiff]
    refine ldOne Shp.eq mem0 rfl ?_
    simp (disch := omega) only [push_cast, Nat.reduceEqDiff]
    refine callV en_40 (callX_fail p ?_)
    simp (disch := omega) only [push_cast, Nat.reduceEqDiff]
    exact fun w' hw' => ⟨by rw [hc, if_neg (by decide)], hw'⟩
  by_cases h120 : t.getD 1 0 = 120
  rotate_left
  · have w120 := q120.trans (eq_false h120)
    have hc : cutT t = false := by simp only [cutT, h120, decide_false]; simp [show ¬ t.length < 2 by omega]
    simp (disch := omega) only [push_cast, Nat.reduceEqDiff, w120, decide_false]
    rw [V_cond]
    simp (disch := omega) only [push_cast, Nat.reduceEqDiff, w120, decide_false]
    refine ldOne Shp.eq mem0 rfl ?_
    simp (disch := omega) only [push_cast, Nat.reduceEqDiff]
    refine callV en_40 (callX_fail p ?_)
    simp (disch := omega) only [push_cast, Nat.reduceEqDiff]
    exact fun w' hw' => ⟨by rw [hc, if_neg (by decide)], hw'⟩
  have w120 := q120.trans (eq_true h120)
  simp (disch := omega) only [push_cast, Nat.reduceEqDiff, w120, decide_true]
  refine guardX_f rfl (fun h3 => ?_) (fun h3 => ?_)
  rotate_left
  · have hc : cutT t = true := by simp only [cutT, h120, decide_true]; simp [show t.length < 3 by omega, show t.length < 4 by omega]
    simp (disch := omega) only [push_cast, Nat.reduceEqDiff]
    rw [V_cond]
    simp (disch := omega) only [push_cast, Nat.reduceEqDiff]
    refine ldOne Shp.eq mem0 rfl ?_
    simp (disch := omega) only [push_cast, Nat.reduceEqDiff]
    refine callV en_40 (callX_fail s.length ?_)
    simp (disch := omega) only [push_cast, Nat.reduceEqDiff]
    exact fun w' hw' => ⟨by rw [hc, if_pos rfl], hw'⟩
  simp (disch := omega) only [push_cast, Nat.reduceEqDiff]
  refine callV en_38 (callX_is (fun w' hw' => indexByte_walk w' hexD (t.getD 2 0)) ?_)
  simp (disch := omega) only [push_cast, Nat.reduceEqDiff]
  rw [V_cond]
  simp (disch := omega) only [push_cast, Nat.reduceEqDiff]
  refine condX_d (fun hh => ?_) (fun hh => ?_)
  · obtain ⟨n, hn⟩ := hex_nn.1 hh
    have hc : cutT t = true := by simp only [cutT, h120, decide_true, hn]; simp [show t.length < 4 by omega]
    simp (disch := omega) only [push_cast, Nat.reduceEqDiff]
    refine ldOne Shp.eq mem0 rfl ?_
    simp (disch := omega) only [push_cast, Nat.reduceEqDiff]
    refine callV en_40 (callX_fail s.length ?_)
    simp (disch := omega) only [push_cast, Nat.reduceEqDiff]
    exact fun w' hw' => ⟨by rw [hc, if_pos rfl], hw'⟩
  · have hn : hexV (t.getD 2 0) = none := by
      cases h9 : hexV (t.getD 2 0) with
      | none => rfl
      | some n => exact absurd (hex_nn.2 ⟨n, h9⟩) hh
    have hc : cutT t = false := by simp only [cutT, h120, decide_true, hn]; simp [show ¬ t.length < 2 by omega, show ¬ t.length < 3 by omega]
    simp (disch := omega) only [push_cast, Nat.reduceEqDiff]
    refine ldOne Shp.eq mem0 rfl ?_
    simp (disch := omega) only [push_cast, Nat.reduceEqDiff]
    refine callV en_40 (callX_fail p ?_)
    simp (disch := omega) only [push_cast, Nat.reduceEqDiff]
    exact fun w' hw' => ⟨by rw [hc, if_neg (by decide)], hw'⟩
end Go.Proofs.YtdmdgkpjjpijdaaDoor
/- YtdmdgkpjjpijdaaDoor: walks, part 165: a reader: quoted texts. -/
namespace Go.Proofs.YtdmdgkpjjpijdaaDoor
open Go Go.K
set_option maxRecDepth 100000
set_option linter.unusedVariables false
set_option linter.unusedSimpArgs false
set_option maxHeartbeats 4000000
theorem infoU8Q : (Tryd.prog.info? 5).map (fun i => (i.zero, i.size, i.bytes)) = some (some (.int .u8 0), 1, 1) := by kernel_rfl
/-- A sign must stand next; the place behind it is told as it is. -/
theorem mustRaw_walk (wb w : World) (rb : Nat) (s : List UInt8) (p : Nat) (M : Own) (c : UInt8) (ci : Int) (hc : ci = c.toNat) (hs : s.length ≤ 65536) (hp : p ≤ s.length) (hw : Sy wb (oRd rb s p :: M) w) :
    Calls Tryd.prog 55 #[.pointer (some ⟨rb, 0, none⟩), .int .u8 ci] w (fun e w' => (∃ v L', e = .returned v ∧ Sy wb L' w' ∧ v = .tuple #[] ∧ s[blP s p]? = some c ∧ L' = oRd rb s (blP s p + 1) :: M) ∨ (∃ ch L', e = .panicked ch ∧ Sy wb L' w' ∧ ch = [faultE (blP s p)] ∧ s[blP s p]? ≠ some c ∧ L' = oRd rb s (blP s p) :: M)) := by
  refine enterB (args := [.pointer (some ⟨rb, 0, none⟩), .int .u8 ci]) Tryd.func55 rfl Tryd.ntmps55 (congrArg Array.toList Tryd.results55) (by kernel_rfl) (by simp) hw ?_
  simp (disch := omega) only [push_cast, Nat.reduceEqDiff]
  refine callV en_23 (callX_two (fun L' => s[blP s p]? = some c ∧ L' = oRd rb s (blP s p + 1) :: M) (fun L' => s[blP s p]? ≠ some c ∧ L' = oRd rb s (blP s p) :: M) (fun w' hw' => take_walk wb w' rb s p M c ci hc hs hp hw') (fun L' hL' => ?_) (fun L' hL' => ?_))
  · have h := hL'.1
    have e := hL'.2
    subst e
    simp (disch := omega) only [push_cast, Nat.reduceEqDiff, Bool.not_true]
    rw [V_cond]
    simp (disch := omega) only [push_cast, Nat.reduceEqDiff, Bool.not_true]
    exact fun w' hw' => .inl ⟨_, _, rfl, hw', rfl, h, rfl⟩
  · have h := hL'.1
    have e := hL'.2
    subst e
    simp (disch := omega) only [push_cast, Nat.reduceEqDiff, Bool.not_false]
    rw [V_cond]
    simp (disch := omega) only [push_cast, Nat.reduceEqDiff, Bool.not_false]
    refine ldOne Shp.eq mem0 rfl ?_
    simp (disch := omega) only [push_cast, Nat.reduceEqDiff]
    refine callV en_40 (callX_fail (blP s p) ?_)
    simp (disch := omega) only [push_cast, Nat.reduceEqDiff]
    exact fun w' hw' => .inr ⟨_, _, rfl, hw', rfl, h, rfl⟩
theorem convX_weak {P : Program} {src dst e : TypeId} {wb : World} {L L' R : Own} {v : Value} {n : Nat} {xs : List Value} {K : Value → World → Own → Prop} (hR : RowO wb e 1 R [] v n xs) (hs : ∀ w, Sy wb L w → Sy wb L' w) (h : ConvX P src dst v wb L' (tag K)) : ConvX P src dst v wb L (tag K) := by
  obtain ⟨a, c, rfl⟩ := hR.is_slice
  exact valX_weak hs h
theorem esc_len {t : List UInt8} {x : UInt8 × Nat} (h : escT t = some x) : 0 < x.2 ∧ x.2 ≤ t.length := by
  unfold escT at h
  split at h
  · cases h; exact ⟨Nat.zero_lt_two, by omega⟩
  split at h
  · cases h
  split at h
  · cases h
  split at h
  · cases h
  · cases h; exact ⟨Nat.zero_lt_succ 3, by show 4 ≤ t.length; omega⟩
structure QtI (w0 : World) (rb : Nat) (s : List UInt8) (M : Own) (t0 : PR (List UInt8)) (p : Nat) (wb : World) (e : Env) (ds : List Deferred) (L : Own) : Prop where
  hw : wb = w0
  hds : ds = []
  hp : p ≤ s.length
  h0 : e 0 = .pointer (some ⟨rb, 0, none⟩)
  o : ∃ (v : Value) (R : Own) (xs : List UInt8) (m : Nat), e 3 = v ∧ RowO w0 5 1 R [] v xs.length (bytesV xs) ∧ xs.length ≤ p ∧ s.length - p < m ∧ (t0 = (pRest s m p).and fun l r => .ok (xs ++ l) r) ∧ L = oRd rb s p :: (R ++ M)
theorem pr_cons {x : UInt8} {xs : List UInt8} (r : PR (List UInt8)) : (r.and fun l r2 => PR.ok (x :: l) r2).and (fun l r => PR.ok (xs ++ l) r) = r.and fun l r => PR.ok ((xs ++ [x]) ++ l) r := by
  cases r with
  | no q => rfl
  | ok l q => simp [PR.and]
theorem quoted_read (wb w : World) (rb : Nat) (s : List UInt8) (p : Nat) (M : Own) (hs : s.length ≤ 65536) (hp : p ≤ s.length) (hrb : wb.heap.size ≤ rb) (hw : Sy wb (oRd rb s p :: M) w) :
    Calls Tryd.prog 39 #[.pointer (some ⟨rb, 0, none⟩)] w (PRet wb rb s M (pQuote s (blP s p)) fun t _ v K => v = str t ∧ K = []) := by
  refine enterB (args := [.pointer (some ⟨rb, 0, none⟩)]) Tryd.func39 rfl Tryd.ntmps39 (congrArg Array.toList Tryd.results39) (by kernel_rfl) (by simp) hw ?_
  simp (disch := omega) only [push_cast, Nat.reduceEqDiff]
  refine callV en_55 (callX_pan (S := fun v L' => v = .tuple #[] ∧ s[blP s p]? = some 34 ∧ L' = oRd rb s (blP s p + 1) :: M) (SP := fun ch L' => ch = [faultE (blP s p)] ∧ s[blP s p]? ≠ some 34 ∧ L' = oRd rb s (blP s p) :: M) (fun w' hw' => mustRaw_walk wb w' rb s p M 34 34 rfl hs hp hw') (fun v L' hv => ?_) (fun ch L' hv => ?_))
  rotate_left
  · have e1 := hv.1
    have h := hv.2.1
    have e2 := hv.2.2
    subst e1
    subst e2
    simp (disch := omega) only [push_cast, Nat.reduceEqDiff]
    exact fun w' hw' => PRet.fall [oRd rb s (blP s p)] (by unfold pQuote; rw [if_neg h]) (fun b hb => by rw [List.mem_singleton.1 hb]; exact hrb) hw'
  have e1 := hv.1
  have h34 := hv.2.1
  have e2 := hv.2.2
  subst e1
  subst e2
  clear hv
  have hlt := (List.getElem?_eq_some_iff.1 h34).1
  have hq : pQuote s (blP s p) = (pRest s (s.length + 1) (blP s p + 1)).and fun t r => .ok t (blP s r) := by unfold pQuote; rw [if_pos h34]
  simp (disch := omega) only [push_cast, Nat.reduceEqDiff]
  rw [V_block]
  simp (disch := omega) only [push_cast, Nat.reduceEqDiff]
  refine loopW (G := Nat) (QtI wb rb s M (pRest s (s.length + 1) (blP s p + 1))) (fun p => s.length - p) (blP s p + 1) _ (fun w hw => hw) (by kernel_rfl) ⟨rfl, rfl, by omega, rfl, .slice none 0 0, [], [], s.length + 1, rfl, ⟨rfl, .inl ⟨rfl, rfl, rfl⟩⟩, by simp, by omega, by
    cases pRest s (s.length + 1) (blP s p + 1) <;> rfl, rfl⟩ ?_
  rintro i wb e ds L ⟨rfl, rfl, hi, h0, v, R, xs, m, h3, hR, hxi, hm, ht, rfl⟩
  have hRn : ∀ b ∈ R, wb.heap.size ≤ b.1 := RowO.new hR (by simp)
  have hfall : ∀ q, pRest s m i = .no q → ∀ w', Sy wb (oRd rb s i :: (R ++ M)) w' → PRet wb rb s M (pQuote s (blP s p)) (fun t _ v K => v = str t ∧ K = []) (.panicked [faultE q]) w' := fun q hq2 w' hw' => by
    refine PRet.fall (oRd rb s i :: R) (by rw [hq, ht, hq2]; rfl) (fun b hb => ?_) hw'
    rcases List.mem_cons.1 hb with rfl | hb
    · exact hrb
    · exact hRn b hb
  obtain ⟨m, rfl⟩ : ∃ k, m = k + 1 := ⟨m - 1, by omega⟩
  rw [V_block]
  simp (disch := omega) only [push_cast, Nat.reduceEqDiff, h0, h3]
  refine drawQT (by kernel_rfl) (by kernel_rfl) mixed (by kernel_rfl) ?_
  simp (disch := omega) only [push_cast, Nat.reduceEqDiff, h0, h3]
  refine ldOne Shp.eq mem0 rfl ?_
  simp (disch := omega) only [push_cast, Nat.reduceEqDiff, h0, h3]
  refine ldOne Shp.eq mem0 rfl ?_
  simp (disch := omega) only [push_cast, Nat.reduceEqDiff, h0, h3]
  rw [V_cond]
  simp (disch := omega) only [push_cast, Nat.reduceEqDiff, h0, h3]
  refine condX_d (fun hge => ?_) (fun hlt2 => ?_)
  · simp (disch := omega) only [push_cast, Nat.reduceEqDiff, h0, h3]
    refine ldOne Shp.eq mem0 rfl ?_
    simp (disch := omega) only [push_cast, Nat.reduceEqDiff, h0, h3]
    refine callV en_40 (callX_fail s.length ?_)
    simp (disch := omega) only [push_cast, Nat.reduceEqDiff, h0, h3]
    exact hfall _ (by rw [pRest, List.getElem?_eq_none (by omega)])
  have hat := getD_at (s := s) (i := i) (by omega)
  simp (disch := omega) only [push_cast, Nat.reduceEqDiff, h0, h3]
  refine drawQT (by kernel_rfl) (by kernel_rfl) mixed (by kernel_rfl) ?_
  simp (disch := omega) only [push_cast, Nat.reduceEqDiff, h0, h3]
  refine ldOne Shp.eq mem0 rfl ?_
  simp (disch := omega) only [push_cast, Nat.reduceEqDiff, h0, h3]
  refine ldOne Shp.eq mem0 rfl ?_
  simp (disch := omega) only [push_cast, Nat.reduceEqDiff, h0, h3]
  rw [V_block]
  simp (disch := omega) only [push_cast, Nat.reduceEqDiff, h0, h3]
  have q34 : (((s.getD i 0).toNat : Int) = 34) = (s.getD i 0 = 34) := u8_eq (by decide)
  have q92 : (((s.getD i 0).toNat : Int) = 92) = (s.getD i 0 = 92) := u8_eq (by decide)
  rw [V_cond]
  simp (disch := omega) only [push_cast, Nat.reduceEqDiff, h0, h3]
  refine condX_d (fun hc => ?_) (fun hc => ?_)
  · have c34 : s.getD i 0 = 34 := by rw [← q34]; exact hc
    simp (disch := omega) only [push_cast, Nat.reduceEqDiff, h0, h3]
    refine ldOne Shp.eq mem0 rfl ?_
    simp (disch := omega) only [push_cast, Nat.reduceEqDiff, h0, h3]
    refine storeX 0 rfl Siz.eq rfl rfl (by simp [Value.oneCell']) (by simp) ?_
    simp (disch := omega) only [push_cast, Nat.reduceEqDiff, h0, h3]
    have e9 : oRd rb s (i + 1) = (rb, Obj.cells (splice [str s, i64 i] 1 [i64 ((i : Int) + 1)]).toArray 56 (0, 0)) := by simp [splice]
    refine convX_weak (L' := R ++ (oRd rb s (i + 1) :: M)) hR (fun w hw => ?_) (convS un_72 Tryd.underlying5 Tryd.underlying9 (RowO.frame hR) ?_)
    · rw [e9]
      exact hw.perm List.perm_middle.symm
    simp (disch := omega) only [push_cast, Nat.reduceEqDiff, h0, h3]
    refine fun w' hw' => PRet.leaf (str xs) (i + 1) [] (x := xs) (q := blP s (i + 1)) ?_ rfl (by omega) ⟨rfl, rfl⟩ (by simp) ?_
    · rw [hq, ht, pRest, hat]
      simp only
      rw [if_pos c34]
      simp [PR.and]
    · exact (hw'.perm List.perm_middle).mid [_] R hRn
  have n34 : ¬ s.getD i 0 = 34 := by rw [← q34]; exact hc
  simp (disch := omega) only [push_cast, Nat.reduceEqDiff, h0, h3]
  rw [V_cond]
  simp (disch := omega) only [push_cast, Nat.reduceEqDiff, h0, h3]
  refine condX_d (fun hc2 => ?_) (fun hc2 => ?_)
  · have c92 : s.getD i 0 = 92 := by rw [← q92]; exact hc2
    have hesc := esc_eq s i (by omega)
    have hpr : pRest s (m + 1) i = (pEsc s i).and fun x r => (pRest s m r).and fun l r2 => .ok (x :: l) r2 := by
      rw [pRest, hat]
      simp only
      rw [if_neg n34, if_pos c92]
    simp (disch := omega) only [push_cast, Nat.reduceEqDiff, h0, h3]
    refine drawQT (by kernel_rfl) (by kernel_rfl) mixed (by kernel_rfl) ?_
    simp (disch := omega) only [push_cast, Nat.reduceEqDiff, h0, h3]
    refine ldOne Shp.eq mem0 rfl ?_
    simp (disch := omega) only [push_cast, Nat.reduceEqDiff, h0, h3]
    refine ldOne Shp.eq mem0 rfl ?_
    simp (disch := omega) only [push_cast, Nat.reduceEqDiff, h0, h3, Int.toNat_natCast]
    have hor : escT (s.drop i) = none ∨ ∃ x, escT (s.drop i) = some x := by
      cases escT (s.drop i) with
      | none => exact .inl rfl
      | some x => exact .inr ⟨x, rfl⟩
    have hdl : (s.drop i).length = s.length - i := List.length_drop ..
    refine hor.elim (fun he => ?_) (fun hx => ?_)
    · refine qcallV en_56 (qcallX_is (.tuple #[.int .u8 0, i64 0]) (fun w' hw' => (escaped_walk w' (s.drop i) (by omega)).mono (fun e w'' ⟨v, a1, a2, a3⟩ => ⟨v, a1, a2, by rw [he] at a3; exact a3⟩)) ?_)
      simp (disch := omega) only [push_cast, Nat.reduceEqDiff, h0, h3]
      rw [V_cond]
      simp (disch := omega) only [push_cast, Nat.reduceEqDiff, h0, h3]
      try refine condX_d (fun _ => ?_) (fun h => absurd (by decide) h)
      try simp (disch := omega) only [push_cast, Nat.reduceEqDiff, h0, h3]
      refine callV en_57 (callX_pan (S := fun _ _ => False) (SP := fun ch L' => ch = [faultE (if cutT (s.drop i) = true then s.length else i)] ∧ L' = oRd rb s i :: (R ++ M)) (fun w' hw' => (cut_walk wb w' rb s i (R ++ M) hs (by omega) hw').mono fun e w'' ⟨he, hs⟩ => .inr ⟨_, _, he, hs, rfl, rfl⟩) (fun _ _ h => h.elim) (fun ch L' hcl => ?_))
      have e1 := hcl.1
      have e2 := hcl.2
      subst e1
      subst e2
      simp (disch := omega) only [push_cast, Nat.reduceEqDiff, h0, h3]
      exact hfall _ (by rw [hpr, hesc, he]; rfl)
    · (refine Exists.elim (hx) (fun x hz => ?_); have he := hz; clear hz)
      have hx2 := esc_len he
      refine qcallV en_56 (qcallX_is (.tuple #[.int .u8 x.1.toNat, i64 x.2]) (fun w' hw' => (escaped_walk w' (s.drop i) (by omega)).mono (fun e w'' ⟨v, a1, a2, a3⟩ => ⟨v, a1, a2, by rw [he] at a3; exact a3.1⟩)) ?_)
      simp (disch := omega) only [push_cast, Nat.reduceEqDiff, h0, h3]
      rw [V_cond]
      simp (disch := omega) only [push_cast, Nat.reduceEqDiff, h0, h3]
      refine condX_d (fun h => by omega) (fun _ => ?_)
      simp (disch := omega) only [push_cast, Nat.reduceEqDiff, h0, h3]
      refine bs_72_1 (newI fun b9 hb9 hn9 => ?_)
      simp (disch := omega) only [push_cast, Nat.reduceEqDiff, h0, h3]
      refine valX_weak (L' := (b9, Obj.cells (bytesV [x.1]).toArray 5 (0, 0)) :: (R ++ (oRd rb s i :: M))) (fun w hw => hw.perm (?_ : List.Perm ((b9, Obj.cells (bytesV [x.1]).toArray 5 (0, 0)) :: oRd rb s i :: (R ++ M)) _)) (appendB [x.1] un_72 infoU8Q (RowO.frame hR) hb9 (by simp only [List.length_cons, List.length_nil]; omega) (fun v5 L5 hro5 => ?_))
      · exact List.perm_middle.symm.cons _
      (refine Exists.elim (RowO.unframe hro5) (fun R5 hz => ?_); have ez := hz.1; subst ez; have hR5 := hz.2; clear hz)
      simp (disch := omega) only [push_cast, Nat.reduceEqDiff, h0, h3]
      refine ldOne Shp.eq (List.mem_append_right _ (.tail _ (.head _))) rfl ?_
      simp (disch := omega) only [push_cast, Nat.reduceEqDiff, h0, h3]
      refine storeX_weak (L' := oRd rb s i :: (R5 ++ ((b9, Obj.cells (bytesV [x.1]).toArray 5 (0, 0)) :: M))) (fun w hw => hw.perm (?_ : List.Perm (R5 ++ ((b9, Obj.cells (bytesV [x.1]).toArray 5 (0, 0)) :: oRd rb s i :: M)) _)) (storeX 0 rfl Siz.eq rfl rfl (by simp [Value.oneCell']) (by simp) ?_)
      · exact (List.Perm.append_left R5 (List.Perm.swap _ _ _)).trans List.perm_middle
      simp (disch := omega) only [push_cast, Nat.reduceEqDiff, h0, h3]
      have e9 : oRd rb s (i + x.2) = (rb, Obj.cells (splice [str s, i64 i] 1 [i64 ((i : Int) + x.2)]).toArray 56 (0, 0)) := by simp [splice]
      refine ⟨i + x.2, oRd rb s (i + x.2) :: (R5 ++ M), fun w hw => ?_, ⟨rfl, rfl, by omega, h0, _, R5, xs ++ [x.1], m, rfl, hR5.cast (by simp) (by rw [bytesV_append]), by simp only [List.length_append, List.length_cons, List.length_nil]; omega, by omega, ?_, rfl⟩, by omega⟩
      · rw [e9]
        exact hw.mid (_ :: R5) [_] (fun p hp => by rw [List.mem_singleton.1 hp]; exact hb9)
      · rw [ht, show pRest s (m + 1) i = (pRest s m (i + x.2)).and fun l r2 => .ok (x.1 :: l) r2 from by rw [hpr, hesc, he]; rfl, pr_cons]
  have n92 : ¬ s.getD i 0 = 92 := by rw [← q92]; exact hc2
  simp (disch := omega) only [push_cast, Nat.reduceEqDiff, h0, h3]
  refine guardX_t rfl (fun h32 => ?_) (fun h32 => ?_)
  · simp (disch := omega) only [push_cast, Nat.reduceEqDiff, h0, h3]
    rw [V_cond]
    simp (disch := omega) only [push_cast, Nat.reduceEqDiff, h0, h3]
    refine condX_d (fun h126 => ?_) (fun h126 => ?_)
    · simp (disch := omega) only [push_cast, Nat.reduceEqDiff, h0, h3]
      refine bs_72_1 (newI fun b9 hb9 hn9 => ?_)
      simp (disch := omega) only [push_cast, Nat.reduceEqDiff, h0, h3]
      refine valX_weak (L' := (b9, Obj.cells (bytesV [s.getD i 0]).toArray 5 (0, 0)) :: (R ++ (oRd rb s i :: M))) (fun w hw => hw.perm (?_ : List.Perm ((b9, Obj.cells (bytesV [s.getD i 0]).toArray 5 (0, 0)) :: oRd rb s i :: (R ++ M)) _)) (appendB [s.getD i 0] un_72 infoU8Q (RowO.frame hR) hb9 (by simp only [List.length_cons, List.length_nil]; omega) (fun v5 L5 hro5 => ?_))
      · exact List.perm_middle.symm.cons _
      (refine Exists.elim (RowO.unframe hro5) (fun R5 hz => ?_); have ez := hz.1; subst ez; have hR5 := hz.2; clear hz)
      simp (disch := omega) only [push_cast, Nat.reduceEqDiff, h0, h3]
      refine ldOne Shp.eq (List.mem_append_right _ (.tail _ (.head _))) rfl ?_
      simp (disch := omega) only [push_cast, Nat.reduceEqDiff, h0, h3]
      refine storeX_weak (L' := oRd rb s i :: (R5 ++ ((b9, Obj.cells (bytesV [s.getD i 0]).toArray 5 (0, 0)) :: M))) (fun w hw => hw.perm (?_ : List.Perm (R5 ++ ((b9, Obj.cells (bytesV [s.getD i 0]).toArray 5 (0, 0)) :: oRd rb s i :: M)) _)) (storeX 0 rfl Siz.eq rfl rfl (by simp [Value.oneCell']) (by simp) ?_)
      · exact (List.Perm.append_left R5 (List.Perm.swap _ _ _)).trans List.perm_middle
      simp (disch := omega) only [push_cast, Nat.reduceEqDiff, h0, h3]
      have e9 : oRd rb s (i + 1) = (rb, Obj.cells (splice [str s, i64 i] 1 [i64 ((i : Int) + 1)]).toArray 56 (0, 0)) := by simp [splice]
      refine ⟨i + 1, oRd rb s (i + 1) :: (R5 ++ M), fun w hw => ?_, ⟨rfl, rfl, by omega, h0, _, R5, xs ++ [s.getD i 0], m, rfl, hR5.cast (by simp) (by rw [bytesV_append]), by simp only [List.length_append, List.length_cons, List.length_nil]; omega, by omega, ?_, rfl⟩, by omega⟩
      · rw [e9]
        exact hw.mid (_ :: R5) [_] (fun p hp => by rw [List.mem_singleton.1 hp]; exact hb9)
      · rw [ht, show pRest s (m + 1) i = (pRest s m (i + 1)).and fun l r2 => .ok (s.getD i 0 :: l) r2 from by rw [pRest, hat]; simp only; rw [if_neg n34, if_neg n92, if_pos ⟨by omega, by omega⟩], pr_cons]
    · simp (disch := omega) only [push_cast, Nat.reduceEqDiff, h0, h3]
      refine ldOne Shp.eq mem0 rfl ?_
      simp (disch := omega) only [push_cast, Nat.reduceEqDiff, h0, h3]
      refine callV en_40 (callX_fail i ?_)
      simp (disch := omega) only [push_cast, Nat.reduceEqDiff, h0, h3]
      exact hfall _ (by rw [pRest, hat]; simp only; rw [if_neg n34, if_neg n92, if_neg (by omega)])
  · simp (disch := omega) only [push_cast, Nat.reduceEqDiff, h0, h3]
    rw [V_cond]
    simp (disch := omega) only [push_cast, Nat.reduceEqDiff, h0, h3]
    refine ldOne Shp.eq mem0 rfl ?_
    simp (disch := omega) only [push_cast, Nat.reduceEqDiff, h0, h3]
    refine callV en_40 (callX_fail i ?_)
    simp (disch := omega) only [push_cast, Nat.reduceEqDiff, h0, h3]
    exact hfall _ (by rw [pRest, hat]; simp only; rw [if_neg n34, if_neg n92, if_neg (by omega)])
end Go.Proofs.YtdmdgkpjjpijdaaDoor
