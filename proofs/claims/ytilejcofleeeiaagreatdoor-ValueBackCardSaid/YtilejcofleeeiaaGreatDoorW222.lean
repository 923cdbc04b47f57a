/- YtilejcofleeeiaaGreatDoor: walks, part 222: texts as numbers and other things: strconv.ParseUint, ParseInt, Atoi, strings.CutPrefix, Cut, HasPrefix, IndexByte, bits.Len64, utf8.DecodeRuneInString. -/
import Derived.Test.YtilejcofleeeiaaGreatDoorW82
import Derived.Test.YtilejcofleeeiaaGreatDoorW213
namespace Go.Proofs.YtilejcofleeeiaaGreatDoor
open Go Go.K
set_option maxRecDepth 100000
set_option linter.unusedVariables false
set_option linter.unusedSimpArgs false
set_option maxHeartbeats 4000000
theorem dig36_hex {n : Nat} (h : n < 16) : dig36 (hexC n) = some n := by
  have : ∀ k : Fin 16, dig36 (hexC k.val) = some k.val := by decide +kernel
  exact this ⟨n, h⟩
theorem parse16_app : ∀ (a b : List UInt8) (acc : Nat), parse16 (a ++ b) acc = (parse16 a acc).bind (parse16 b)
  | [], b, acc => rfl
  | c :: a, b, acc => by
    rw [List.cons_append, parse16, parse16]
    cases dig36 c with
    | none => rfl
    | some d =>
      simp only
      split
      · rfl
      · exact parse16_app a b _
theorem parse16_hexs : ∀ (m x : Nat), m ≤ 15 → x < 16 ^ m → parse16 (hexs x m) 0 = some x
  | 0, x, hm, hx => by simp at hx; rw [hx]; rfl
  | m + 1, x, hm, hx => by
    rw [Nat.pow_succ] at hx
    have hp : 16 ^ m ≤ 16 ^ 14 := Nat.pow_le_pow_right (by decide) (by omega)
    have h14 : (16 : Nat) ^ 14 = 72057594037927936 := rfl
    rw [hexs, parse16_app, parse16_hexs m (x / 16) (by omega) (by omega), Option.bind_some, parse16, dig36_hex (Nat.mod_lt _ (by decide))]
    simp only
    rw [if_neg (by omega), parse16]
    congr 1
    omega
theorem bin_err_nil {K : Value → Prop} (x : Operand) : PureX Tryz.prog (binV .neq 91 x (.const .nilIface) .nilIface .nilIface) (tag K) = K (.bool false) := px (fun w => by
  have h : (Op.equal 91 .nilIface .nilIface).run Tryz.prog w = .ok true w := by
    show (Op.equalIn (9999 + 1) 91 .nilIface .nilIface).run Tryz.prog w = _
    unfold Op.equalIn
    simp only [underlying, Sem.run_bind, run_program, Result.andThen_ok, Tryz.underlying91, Sem.run_pure]
  simp [binV, eqGuard, binOp, h]) K
theorem bin_err_some {K : Value → Prop} (x : Operand) (te : TypeId) (pe : Value) : PureX Tryz.prog (binV .neq 91 x (.const .nilIface) (.iface te pe) .nilIface) (tag K) = K (.bool true) := px (fun w => by
  first
  | rfl
  | (simp [binV, eqGuard, binOp]; done)) K
/-- A number and no error, or an error. -/
def NumS (k : IntKind) (p : Option Int) (lo hi : Int) (v : Value) : Prop := ∃ n, lo ≤ n ∧ n < hi ∧ ((p = some n ∧ v = .tuple #[.int k n, .nilIface]) ∨ (p = none ∧ ∃ te pe, v = .tuple #[.int k n, .iface te pe]))
def endO : Lib.NumEnd Nat → Option Int
  | .ok u => some u
  | _ => none
def endI : Lib.NumEnd Int → Option Int
  | .ok u => some u
  | _ => none
theorem parseUint_walk (w : World) (hl : LibV w) (s : List UInt8) (hs : s.length ≤ 1000000) : Calls Tryz.prog 108 #[str s, i64 10, i64 64] w (Rets w fun v _ => NumS .u64 (endO (Lib.parseUintB 64 s)) 0 18446744073709551616 v) := by
  cases h : Lib.parseUintB 64 s
  · rename_i n
    have := parseU_lt h
    refine (Any.strconv_ParseUint_10_at64_ok laysPU ⟨s.toArray⟩ (by show s.toArray.size ≤ _; rw [List.size_toArray]; omega) n h w).mono ?_
    rintro e w' ⟨rfl, rfl | rfl⟩
    · exact ⟨_, rfl, Sy.refl _, n, by omega, by omega, .inl ⟨rfl, rfl⟩⟩
    · exact ⟨_, rfl, Sy.of_below (Go.Joins.below_bytesWorld _ w _ _ (Nat.le_refl _)), n, by omega, by omega, .inl ⟨rfl, rfl⟩⟩
  · obtain ⟨ev, h1, h2⟩ := hl.2.1 4 (.inl rfl)
    refine (Any.strconv_ParseUint_10_at64_syntax laysPU ⟨s.toArray⟩ (by show s.toArray.size ≤ _; rw [List.size_toArray]; omega) h ev w h1 h2).mono ?_
    rintro e w' ⟨N, rfl, _, _, hb⟩
    exact ⟨_, rfl, Sy.of_below hb, _, by decide, by decide, .inr ⟨rfl, _, _, rfl⟩⟩
  · obtain ⟨ev, h1, h2⟩ := hl.2.1 5 (.inr rfl)
    refine (Any.strconv_ParseUint_10_at64_range laysPU ⟨s.toArray⟩ (by show s.toArray.size ≤ _; rw [List.size_toArray]; omega) h ev w h1 h2).mono ?_
    rintro e w' ⟨N, rfl, _, _, hb⟩
    exact ⟨_, rfl, Sy.of_below hb, _, by decide, by decide, .inr ⟨rfl, _, _, rfl⟩⟩
theorem parseInt_walk (w : World) (hl : LibV w) (s : List UInt8) (hs : s.length ≤ 1000000) : Calls Tryz.prog 109 #[str s, i64 10, i64 64] w (Rets w fun v _ => NumS .i64 (endI (Lib.parseIntB 64 s)) (-9223372036854775808) 9223372036854775808 v) := by
  cases h : Lib.parseIntB 64 s
  · rename_i n
    have := parseI_range h
    refine (Any.strconv_ParseInt_10_at64_ok laysPI ⟨s.toArray⟩ (by show s.toArray.size ≤ _; rw [List.size_toArray]; omega) n h w).mono ?_
    rintro e w' ⟨rfl, rfl | ⟨t, rfl⟩⟩
    · exact ⟨_, rfl, Sy.refl _, n, by omega, by omega, .inl ⟨rfl, rfl⟩⟩
    · exact ⟨_, rfl, Sy.of_below (Go.Joins.below_bytesWorld _ w _ t (Nat.le_refl _)), n, by omega, by omega, .inl ⟨rfl, rfl⟩⟩
  · obtain ⟨ev, h1, h2⟩ := hl.2.1 4 (.inl rfl)
    refine (Any.strconv_ParseInt_10_at64_syntax laysPI ⟨s.toArray⟩ (by show s.toArray.size ≤ _; rw [List.size_toArray]; omega) h ev w h1 h2).mono ?_
    rintro e w' ⟨N, rfl, _, _, hb⟩
    exact ⟨_, rfl, Sy.of_below hb, _, by decide, by decide, .inr ⟨rfl, _, _, rfl⟩⟩
  · obtain ⟨ev, h1, h2⟩ := hl.2.1 5 (.inr rfl)
    refine (Any.strconv_ParseInt_10_at64_range laysPI ⟨s.toArray⟩ (by show s.toArray.size ≤ _; rw [List.size_toArray]; omega) h ev w h1 h2).mono ?_
    rintro e w' ⟨N, rfl, _, _, hb⟩
    have hsat : -9223372036854775808 ≤ Lib.intSat 64 s ∧ Lib.intSat 64 s < 9223372036854775808 := by unfold Lib.intSat; split <;> decide
    exact ⟨_, rfl, Sy.of_below hb, _, hsat.1, hsat.2, .inr ⟨rfl, _, _, rfl⟩⟩
theorem atoi_walk (w : World) (hl : LibV w) (s : List UInt8) (hs : s.length ≤ 1000000) : Calls Tryz.prog 130 #[str s] w (Rets w fun v _ => NumS .i64 (endI (Lib.parseIntB 64 s)) (-9223372036854775808) 9223372036854775808 v) := by
  rw [← atoi_parseI]
  cases h : Lib.atoiAll s
  · rename_i n
    have := parseI_range (by rw [← atoi_parseI]; exact h)
    refine (Any.strconv_Atoi_ok laysAtoi ⟨s.toArray⟩ (by show s.toArray.size ≤ _; rw [List.size_toArray]; omega) n h w).mono ?_
    rintro e w' ⟨rfl, rfl | ⟨t, rfl⟩⟩
    · exact ⟨_, rfl, Sy.refl _, n, by omega, by omega, .inl ⟨rfl, rfl⟩⟩
    · exact ⟨_, rfl, Sy.of_below (Go.Joins.below_bytesWorld _ w _ t (Nat.le_refl _)), n, by omega, by omega, .inl ⟨rfl, rfl⟩⟩
  · obtain ⟨ev, h1, h2⟩ := hl.2.1 4 (.inl rfl)
    refine (Any.strconv_Atoi_syntax laysAtoi ⟨s.toArray⟩ (by show s.toArray.size ≤ _; rw [List.size_toArray]; omega) h ev w h1 h2).mono ?_
    rintro e w' ⟨N, rfl, _, _, hb⟩
    exact ⟨_, rfl, Sy.of_below hb, _, by decide, by decide, .inr ⟨rfl, _, _, rfl⟩⟩
  · obtain ⟨ev, h1, h2⟩ := hl.2.1 5 (.inr rfl)
    refine (Any.strconv_Atoi_range laysAtoi ⟨s.toArray⟩ (by show s.toArray.size ≤ _; rw [List.size_toArray]; omega) h ev w h1 h2).mono ?_
    rintro e w' ⟨N, rfl, _, _, hb⟩
    have hsat : -9223372036854775808 ≤ Lib.atoiSat s ∧ Lib.atoiSat s < 9223372036854775808 := by unfold Lib.atoiSat; split <;> decide
    exact ⟨_, rfl, Sy.of_below hb, _, hsat.1, hsat.2, .inr ⟨rfl, _, _, rfl⟩⟩
theorem parse16_walk (w : World) (hl : LibV w) (s : List UInt8) (hs : s.length ≤ 1000000) : Calls Tryz.prog 108 #[str s, i64 16, i64 64] w (Rets w fun v _ => NumS .u64 (if s = [] then none else (parse16 s 0).map fun n => (n : Int)) 0 18446744073709551616 v) := by
  refine enterT (args := [str s, i64 16, i64 64]) Tryz.func108 rfl Tryz.ntmps108 (congrArg Array.toList Tryz.results108) (by kernel_rfl) (by simp) (Sy.refl w) ?_
  simp (disch := omega) only [push_cast, Nat.reduceEqDiff]
  refine callV en_132 (callX_data (S := fun _ v _ => P16S s v) (fun w' _ => parse16_in w' s hs) (fun w1 v w2 hw1 hw2 hw3 hS => ?_))
  rcases hS with ⟨u, hu, hne, hp, rfl⟩ | ⟨hno, n, k, n0, n1, hk, rfl⟩
  · simp (disch := omega) only [push_cast, Nat.reduceEqDiff, bin_err_nil]
    rw [V_cond]
    simp (disch := omega) only [push_cast, Nat.reduceEqDiff]
    exact fun w' hw' => ⟨_, rfl, (hw3.ext hw'), u, by omega, by omega, .inl ⟨by rw [if_neg hne, hp]; rfl, rfl⟩⟩
  · simp (disch := omega) only [push_cast, Nat.reduceEqDiff, bin_err_some]
    rw [V_cond]
    simp (disch := omega) only [push_cast, Nat.reduceEqDiff]
    have hno' : (if s = [] then none else (parse16 s 0).map fun n => (n : Int)) = none := by
      rcases hno with h | h
      · rw [if_pos h]
      · rw [h]; split <;> rfl
    rw [hno']
    have hl2 := hl.mono hw3 (by simp)
    have hsz : (⟨s.toArray⟩ : ByteArray).size ≤ 281474976710656 := by show s.toArray.size ≤ _; rw [List.size_toArray]; omega
    refine callV en_133 (callX_data (S := fun _ v _ => ∃ te pe, v = .iface te pe) (fun w' hw' => ?_) (fun w4 v w5 hw4 hw5 hw6 hS => ?_))
    · have hl3 := hl2.mono hw' (by simp)
      rcases hk with rfl | rfl
      · obtain ⟨ev, e1, e2⟩ := hl3.2.1 5 (.inr rfl)
        refine (AnyPu.strconv_toError_range { laysPU with } ⟨#[80, 97, 114, 115, 101, 85, 105, 110, 116]⟩ ⟨s.toArray⟩ 16 64 ev w' hsz e1 e2).mono ?_
        rintro e w7 ⟨N, rfl, _, _, hb⟩
        exact ⟨_, rfl, Sy.of_below hb, _, _, rfl⟩
      · obtain ⟨ev, e1, e2⟩ := hl3.2.1 4 (.inl rfl)
        refine (AnyPu.strconv_toError_syntax { laysPU with } ⟨#[80, 97, 114, 115, 101, 85, 105, 110, 116]⟩ ⟨s.toArray⟩ 16 64 ev w' hsz e1 e2).mono ?_
        rintro e w7 ⟨N, rfl, _, _, hb⟩
        exact ⟨_, rfl, Sy.of_below hb, _, _, rfl⟩
    · obtain ⟨te, pe, rfl⟩ := hS
      simp (disch := omega) only [push_cast, Nat.reduceEqDiff]
      exact fun w' hw' => ⟨_, rfl, (hw3.ext (hw6.ext hw')), n, n0, n1, .inr ⟨rfl, te, pe, rfl⟩⟩
theorem cutPrefix_walk (w : World) (l p : List UInt8) : Calls Tryz.prog 128 #[str l, str p] w (Rets w (Is (.tuple #[str (Lib.trimPrefix l p), .bool (Lib.hasPrefix l p)]))) := by
  refine (Any.strings_CutPrefix laysCutP ⟨l.toArray⟩ ⟨p.toArray⟩ w).mono ?_
  rintro e w' ⟨rfl, rfl⟩
  exact ⟨_, rfl, Sy.refl _, rfl⟩
theorem hasPrefix_walk (w : World) (l p : List UInt8) : Calls Tryz.prog 105 #[str l, str p] w (Rets w (Is (.bool (Lib.hasPrefix l p)))) := by
  refine (Any.strings_HasPrefix laysPre ⟨l.toArray⟩ ⟨p.toArray⟩ w).mono ?_
  rintro e w' ⟨rfl, rfl⟩
  exact ⟨_, rfl, Sy.refl _, rfl⟩
theorem indexByte_walk (w : World) (l : List UInt8) (c : UInt8) : Calls Tryz.prog 150 #[str l, .int .u8 c.toNat] w (Rets w (Is (i64 (Lib.indexByte l c)))) := by
  have h := Any.strings_IndexByte laysIdx ⟨l.toArray⟩ (c.toNat : Int) w
  refine h.mono ?_
  rintro e w' ⟨rfl, rfl⟩
  refine ⟨_, rfl, Sy.refl _, ?_⟩
  show i64 (Lib.indexByte l (((c.toNat : Int).toNat).toUInt8)) = _
  rw [Int.toNat_natCast, show (c.toNat.toUInt8) = c from UInt8.ofNat_toNat]
theorem bitLen_blen (x : Nat) (h : x < 18446744073709551616) : Lib.bitLen x = blen x := by
  by_cases h0 : x = 0
  · subst h0; rfl
  · obtain ⟨b1, b2, b3⟩ := blen_spec (m := x) (by omega)
    have h64 : blen x ≤ 64 := blen_le (k := 64) (by have : (2 : Nat) ^ 64 = 18446744073709551616 := rfl; omega)
    rw [Lib.bitLen_shift (blen x - 1) x b1 (by have : (2 : Nat) ^ 64 = 18446744073709551616 := rfl; omega)]
    have hq : x / 2 ^ (blen x - 1) = 1 := by
      refine Nat.div_eq_of_lt_le (by omega) ?_
      rw [show (1 + 1) * 2 ^ (blen x - 1) = 2 ^ (blen x - 1 + 1) by rw [Nat.pow_succ]; omega, show blen x - 1 + 1 = blen x by omega]
      exact b2
    rw [hq, show Lib.bitLen 1 = 1 from rfl]
    omega
theorem len64_walk (w : World) (x : Nat) (h : x < 18446744073709551616) : Calls Tryz.prog 131 #[.int .u64 x] w (Rets w (Is (i64 (blen x)))) := by
  refine (Any.bits_Len64 laysLen x w (by omega) (by omega)).mono ?_
  rintro e w' ⟨rfl, rfl⟩
  exact ⟨_, rfl, Sy.refl _, congrArg i64 (by rw [Int.toNat_natCast, bitLen_blen x h])⟩
theorem decode_walk (w : World) (hT : TabsAt w) (l : List UInt8) (hne : l ≠ []) : Calls Tryz.prog 104 #[str l] w (Rets w (Is (.tuple #[.int .i32 (Lib.decodeL l).1, i64 (Lib.decodeL l).2]))) := by
  refine (Any.utf8_DecodeRuneInString laysDec ⟨l.toArray⟩ w hT).mono ?_
  rintro e w' ⟨rfl, hb⟩
  refine ⟨_, rfl, Sy.of_below hb, ?_⟩
  have : Lib.decodeGo ⟨l.toArray⟩ = Lib.decodeL l := by
    unfold Lib.decodeGo
    rw [if_neg (by show ¬ l.toArray.size = 0; rw [List.size_toArray]; exact fun h => hne (List.eq_nil_of_length_eq_zero h))]
    rfl
  rw [this]
theorem index_one : ∀ (u : List UInt8) (c : UInt8) (v : List UInt8), (∀ x ∈ u, x ≠ c) → Lib.index (u ++ c :: v) [c] = u.length
  | [], c, v, h => by
    show Lib.index (c :: v) [c] = _
    unfold Lib.index
    rw [if_pos (by simp)]
    rfl
  | x :: u, c, v, h => by
    have ih := index_one u c v (fun y hy => h y (.tail _ hy))
    show Lib.index (x :: (u ++ c :: v)) [c] = _
    unfold Lib.index
    rw [if_neg (by simp only [List.isPrefixOf, Bool.and_true, beq_iff_eq]; exact fun e => h x (.head _) e.symm), ih]
    simp
/-- A text is cut at the first byte of a kind. -/
theorem cut_one (u : List UInt8) (c : UInt8) (v : List UInt8) (h : ∀ x ∈ u, x ≠ c) : Lib.cut (u ++ c :: v) [c] = (u, v, true) := by
  unfold Lib.cut
  rw [index_one u c v h, if_pos (by omega)]
  simp
end Go.Proofs.YtilejcofleeeiaaGreatDoor
