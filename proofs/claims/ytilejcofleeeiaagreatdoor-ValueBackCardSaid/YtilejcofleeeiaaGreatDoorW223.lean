/- YtilejcofleeeiaaGreatDoor: walks, part 223: the text of a floating-point number: the program's. -/
import Derived.Test.YtilejcofleeeiaaGreatDoorW222
import Derived.Laws.BitsAllLaws
namespace Go.Proofs.YtilejcofleeeiaaGreatDoor
open Go Go.K
set_option maxRecDepth 100000
set_option linter.unusedVariables false
set_option linter.unusedSimpArgs false
set_option maxHeartbeats 4000000
section
variable {P : Program} {K : Value → Prop}
theorem bshr (k yk : IntKind) (t : TypeId) (x y : Operand) (n c : Int) (h0 : 0 ≤ c) : PureX P (binV .shr t x y (.int k n) (.int yk c)) (tag K) = K (.int k (n / 2 ^ min c.toNat k.bits)) := px (fun w => by simp [binV, eqGuard, binOp, shift_shr_any, h0]) K
theorem bshl (k yk : IntKind) (t : TypeId) (x y : Operand) (n c : Int) (h0 : 0 ≤ c) : PureX P (binV .shl t x y (.int k n) (.int yk c)) (tag K) = K (.int k (k.wrap (n * 2 ^ min c.toNat k.bits))) := px (fun w => by simp [binV, eqGuard, binOp, shift_shl_any, h0]) K
theorem shr52 (t : TypeId) (x y : Operand) (n : Int) : PureX P (binV .shr t x y (.int .u64 n) (.int .u64 52)) (tag K) = K (.int .u64 (n / 4503599627370496)) := bshr .u64 .u64 t x y n 52 (by decide)
theorem shr4 (t : TypeId) (x y : Operand) (n : Int) : PureX P (binV .shr t x y (.int .u64 n) (.int .u64 4)) (tag K) = K (.int .u64 (n / 16)) := bshr .u64 .u64 t x y n 4 (by decide)
theorem shr4b (t : TypeId) (x y : Operand) (n : Int) : PureX P (binV .shr t x y (.int .u8 n) (.int .u64 4)) (tag K) = K (.int .u8 (n / 16)) := bshr .u8 .u64 t x y n 4 (by decide)
theorem shr1 (t : TypeId) (x y : Operand) (n : Int) : PureX P (binV .shr t x y (.int .u64 n) (.int .u64 1)) (tag K) = K (.int .u64 (n / 2)) := bshr .u64 .u64 t x y n 1 (by decide)
theorem bandM (j : Nat) (hj : 2 ^ j ≤ 18446744073709551616) (t : TypeId) (x y : Operand) (n : Int) (h0 : 0 ≤ n) (h1 : n < 18446744073709551616) : PureX P (binV .and t x y (.int .u64 n) (.int .u64 ((2 ^ j - 1 : Nat) : Int))) (tag K) = K (.int .u64 (n % ((2 ^ j : Nat) : Int))) := by
  have hp : 0 < 2 ^ j := Nat.two_pow_pos j
  have e : bits .and .u64 n ((2 ^ j - 1 : Nat) : Int) = n % ((2 ^ j : Nat) : Int) := by
    obtain ⟨u, rfl⟩ : ∃ u : Nat, n = u := ⟨n.toNat, by omega⟩
    rw [u64_and_nat u (2 ^ j - 1) (by omega) (by omega), Nat.and_two_pow_sub_one_eq_mod]
    omega
  rw [← e]
  exact px (fun w => rfl) K
theorem and1 (t : TypeId) (x y : Operand) (n : Int) (h0 : 0 ≤ n) (h1 : n < 18446744073709551616) : PureX P (binV .and t x y (.int .u64 n) (.int .u64 1)) (tag K) = K (.int .u64 (n % 2)) := bandM 1 (by decide) t x y n h0 h1
theorem and15 (t : TypeId) (x y : Operand) (n : Int) (h0 : 0 ≤ n) (h1 : n < 18446744073709551616) : PureX P (binV .and t x y (.int .u64 n) (.int .u64 15)) (tag K) = K (.int .u64 (n % 16)) := bandM 4 (by decide) t x y n h0 h1
theorem and2047 (t : TypeId) (x y : Operand) (n : Int) (h0 : 0 ≤ n) (h1 : n < 18446744073709551616) : PureX P (binV .and t x y (.int .u64 n) (.int .u64 2047)) (tag K) = K (.int .u64 (n % 2048)) := bandM 11 (by decide) t x y n h0 h1
theorem and52 (t : TypeId) (x y : Operand) (n : Int) (h0 : 0 ≤ n) (h1 : n < 18446744073709551616) : PureX P (binV .and t x y (.int .u64 n) (.int .u64 4503599627370495)) (tag K) = K (.int .u64 (n % 4503599627370496)) := bandM 52 (by decide) t x y n h0 h1
theorem or52 (t : TypeId) (x y : Operand) (n : Int) (h0 : 0 ≤ n) (h1 : n < 4503599627370496) : PureX P (binV .or t x y (.int .u64 n) (.int .u64 4503599627370496)) (tag K) = K (.int .u64 (n + 4503599627370496)) := by
  have e : bits .or .u64 n 4503599627370496 = n + 4503599627370496 := by
    rw [u64_or _ _ h0 (by omega) (by decide) (by decide), Nat.or_comm, show (4503599627370496 : Int).toNat = 4503599627370496 from rfl, nat_join 52 4503599627370496 n.toNat (by decide) (by omega)]
    omega
  rw [← e]
  exact px (fun w => rfl) K
theorem max_i (t u : TypeId) (x y : Int) : PureX P (Builtin.max_ #[t, t] u #[i64 x, i64 y]) (tag K) = K (i64 (max x y)) := by
  refine px (v := i64 (max x y)) (fun w => ?_) K
  simp [Builtin.max_, Builtin.max2, Sem.run_bind, Sem.run_pure]
  split <;> omega
theorem addS {t : TypeId} {x y : Operand} {l m : List UInt8} (h : l.length + m.length ≤ 9223372036854775807) (hk : K (str (l ++ m))) : PureX P (binV .add t x y (str l) (str m)) (tag K) := Eq.mpr (bin_str_add l m _ _ h) hk
end
theorem wrapU (n : Int) (h1 : -9223372036854775808 ≤ n) (h2 : n < 9223372036854775808) : IntKind.u64.wrap n = (unsP n : Int) := by rw [IntKind.wrap_u64]; unfold unsP; omega
/-- The digits of base sixteen, as the program has them. -/
def hexL : List UInt8 := [48, 49, 50, 51, 52, 53, 54, 55, 56, 57, 97, 98, 99, 100, 101, 102]
theorem hexL_one {k : Nat} (h : k < 16) : (hexL.take (k + 1)).drop k = [hexC k] := by
  have : ∀ j : Fin 16, (hexL.take (j.val + 1)).drop j.val = [hexC j.val] := by decide +kernel
  exact this ⟨k, h⟩
theorem slHex {K : Value → Prop} {kk : IntKind} {q : Nat} {i j : Int} (hi : i = q) (hj : j = q + 1) (hq : q < 16) (hk : K (str [hexC q])) : PureX Tryz.prog (Instr.sliceAt 9 (str hexL) (some (.int kk i)) (some (.int kk j)) none) (tag K) := by
  subst hi; subst hj
  refine Eq.mpr (slStr hexL kk Tryz.underlying9 q (q + 1) (by omega) (by omega) (by show (q : Int) + 1 ≤ (16 : Nat); omega)) ?_
  rw [show ((q : Int) + 1).toNat = q + 1 by omega, Int.toNat_natCast, hexL_one hq]
  exact hk
theorem hexL_get {k : Nat} (h : k < 16) : hexL[k]? = some (hexC k) := by
  have : ∀ j : Fin 16, hexL[j.val]? = some (hexC j.val) := by decide +kernel
  exact this ⟨k, h⟩
theorem hexs_cons : ∀ (m x : Nat), hexs x (m + 1) = hexC (x / 16 ^ m % 16) :: hexs x m
  | 0, x => by simp [hexs]
  | m + 1, x => by
    rw [hexs, hexs_cons m (x / 16), Nat.div_div_eq_div_mul, show 16 * 16 ^ m = 16 ^ (m + 1) by rw [Nat.pow_succ]; omega]
    rfl
theorem mag_uns (n : Int) (h1 : -9223372036854775808 ≤ n) (h2 : n < 9223372036854775808) : unsP n / 4503599627370496 % 2048 = magU n / 4503599627370496 ∧ unsP n % 4503599627370496 = magU n % 4503599627370496 ∧ magU n < 9223372036854775808 := by
  unfold unsP magU; omega
def sgn (n : Int) : List UInt8 := if n < 0 then [45] else []
structure FlZ (w0 : World) (n : Int) (wb : World) (e : Env) (ds : List Deferred) (L : Own) : Prop where
  hw : wb = w0
  hds : ds = []
  o : L = []
  h0 : e 0 = i64 n
  h3 : e 3 = str (sgn n)
structure FlN (w0 : World) (x : Nat) (sg : List UInt8) (i : Nat) (wb : World) (e : Env) (ds : List Deferred) (L : Own) : Prop where
  hw : wb = w0
  hds : ds = []
  o : L = []
  hi : i ≤ 13
  h3 : e 3 = str sg
  h5 : e 5 = .int .u64 (x / 16 ^ i : Nat)
  h6 : e 6 = str (hexs x i)
  h30 : e 30 = i64 i
structure FlM (w0 : World) (sg : List UInt8) (m0 : Nat) (a0 : Int) (m : Nat) (a : Int) (wb : World) (e : Env) (ds : List Deferred) (L : Own) : Prop where
  hw : wb = w0
  hds : ds = []
  o : L = []
  hm : 0 < m ∧ m < 9007199254740992
  hq : m0 = m / 2 ^ twos 64 m ∧ a0 = a + twos 64 m
  ha : -1074 ≤ a ∧ a ≤ 1100
  h3 : e 3 = str sg
  h5 : e 5 = .int .u64 m
  h7 : e 7 = i64 a
structure FlB (w0 : World) (sg : List UInt8) (pw pt : Nat) (wb : World) (e : Env) (ds : List Deferred) (L : Own) : Prop where
  hw : wb = w0
  hds : ds = []
  o : L = []
  hk : pw ≠ 2047 ∧ ¬ (pw = 0 ∧ pt = 0)
  h3 : e 3 = str sg
  h4 : e 4 = i64 pw
  h5 : e 5 = .int .u64 ((if pw = 0 then pt else pt + 4503599627370496 : Nat) : Int)
theorem float_walk (w : World) (hl : LibV w) (n : Int) (h1 : -9223372036854775808 ≤ n) (h2 : n < 9223372036854775808) : Calls Tryz.prog 49 #[i64 n] w (Rets w (Is (str (floatT n)))) := by
  refine enterT (args := [i64 n]) Tryz.func49 rfl Tryz.ntmps49 (congrArg Array.toList Tryz.results49) (by kernel_rfl) (by simp) (Sy.refl w) ?_
  simp (disch := omega) only [push_cast, Nat.reduceEqDiff]
  refine cutV (FlZ w n) ?_ ?_
  · rw [V_cond]
    simp (disch := omega) only [push_cast, Nat.reduceEqDiff]
    refine condX_d (fun h => ?_) (fun h => ?_)
    · simp (disch := omega) only [push_cast, Nat.reduceEqDiff]
      exact ⟨rfl, rfl, rfl, rfl, congrArg str (show [45] = sgn n by unfold sgn; rw [if_pos h])⟩
    · simp (disch := omega) only [push_cast, Nat.reduceEqDiff]
      exact ⟨rfl, rfl, rfl, rfl, congrArg str (show [] = sgn n by unfold sgn; rw [if_neg h])⟩
  rintro wb e ds L ⟨rfl, rfl, rfl, h0, h3⟩
  obtain ⟨m1, m2, m3⟩ := mag_uns n h1 h2
  have hlm : (magU n) / 4503599627370496 ≤ 2047 := by omega
  have hut : (unsP n) < 18446744073709551616 := by unfold unsP; omega
  have hT : floatT n = sgn n ++ floatU (magU n) := by unfold floatT sgn; split <;> rfl
  have hsg : (sgn n).length ≤ 1 := by unfold sgn; split <;> simp
  obtain ⟨pw, hpw⟩ : ∃ pw, magU n / 4503599627370496 = pw := ⟨_, rfl⟩
  obtain ⟨pt, hpt⟩ : ∃ pt, magU n % 4503599627370496 = pt := ⟨_, rfl⟩
  obtain ⟨u, hu⟩ : ∃ u, unsP n = u := ⟨_, rfl⟩
  have ew : IntKind.u64.wrap n = (u : Int) := by rw [wrapU n h1 h2, hu]
  have e1 : (u : Int) / 4503599627370496 % 2048 = (pw : Int) := by omega
  have e2 : (u : Int) % 4503599627370496 = (pt : Int) := by omega
  have hptl : pt < 4503599627370496 := by omega
  have hL : ∀ p ∈ ([] : Own), wb.heap.size ≤ p.1 := by simp
  simp (disch := omega) only [push_cast, Nat.reduceEqDiff, h0, ew, shr52, and2047, and52, e1, e2]
  refine forget (fun e => e 3 = str (sgn n) ∧ e 4 = i64 pw ∧ e 5 = .int .u64 pt) ⟨h3, rfl, rfl⟩ ?_
  clear h0 h3 e
  rintro e ⟨h3, h4, h5⟩
  refine cutV (FlB wb (sgn n) pw pt) ?_ ?_
  · rw [V_block]
    simp (disch := omega) only [push_cast, Nat.reduceEqDiff, h4, h5]
    refine guardX_t rfl (fun hA => ?_) (fun hA => ?_)
    · have fu : floatU (magU n) = if pt = 0 then [105, 110, 102] else [110, 97, 110] ++ hexs pt 13 := by unfold floatU; rw [hpw, hpt, if_pos (by omega)]
      simp (disch := omega) only [push_cast, Nat.reduceEqDiff, h4, h5]
      rw [V_cond]
      simp (disch := omega) only [push_cast, Nat.reduceEqDiff, h3, h4, h5]
      refine condX_d (fun hB => ?_) (fun hB => ?_)
      · simp (disch := omega) only [push_cast, Nat.reduceEqDiff, h3]
        refine addS (m := [105, 110, 102]) (by simp only [List.length_cons, List.length_nil, List.length_append]; omega) ?_
        simp (disch := omega) only [push_cast, Nat.reduceEqDiff]
        exact finIs hL (by rw [hT, fu, if_pos (by omega)])
      simp (disch := omega) only [push_cast, Nat.reduceEqDiff, h4]
      rw [V_cond]
      simp (disch := omega) only [push_cast, Nat.reduceEqDiff, h4]
      refine condX_d (fun _ => ?_) (fun h => absurd hA h)
      simp (disch := omega) only [push_cast, Nat.reduceEqDiff, h3, h5]
      rw [V_block]
      simp (disch := omega) only [push_cast, Nat.reduceEqDiff, h3, h5]
      refine loopW (G := Nat) (FlN wb pt (sgn n)) (fun i => 13 - i) 0 _ (fun w hw => hw) (by kernel_rfl) ⟨rfl, rfl, rfl, by omega, h3, by rw [Nat.pow_zero, Nat.div_one]; exact h5, rfl, rfl⟩ ?_
      clear h3 h4 h5 e
      rintro i wb e ds L ⟨rfl, rfl, rfl, hi, h3, h5, h6, h30⟩
      simp (disch := omega) only [push_cast, Nat.reduceEqDiff, h30]
      rw [V_cond]
      simp (disch := omega) only [push_cast, Nat.reduceEqDiff, h30]
      obtain ⟨q, hq⟩ : ∃ q, pt / 16 ^ i = q := ⟨_, rfl⟩
      have hql : q ≤ pt := by rw [← hq]; exact Nat.div_le_self _ _
      rw [hq] at h5
      refine condX_d (fun hlt => ?_) (fun hge => ?_)
      · simp (disch := omega) only [push_cast, Nat.reduceEqDiff, h5]
        rw [V_block]
        simp (disch := omega) only [push_cast, Nat.reduceEqDiff, h5, and15]
        refine slHex (q := q % 16) (by omega) (by rw [wu64 (by omega) (by omega)]; omega) (by omega) ?_
        simp (disch := omega) only [push_cast, Nat.reduceEqDiff, h6]
        have hlen := hexs_len i pt
        refine addS (by simp only [List.length_cons, List.length_nil, List.length_append]; omega) ?_
        simp (disch := omega) only [push_cast, Nat.reduceEqDiff, h5, h30, shr4]
        have hd2 : pt / 16 ^ (i + 1) = q / 16 := by rw [Nat.pow_succ, ← Nat.div_div_eq_div_mul, hq]
        refine ⟨i + 1, _, fun w hw => hw, ⟨rfl, rfl, rfl, by omega, h3, ?_, ?_, ?_⟩, by omega⟩
        · rw [hd2]; simp only [upd]; first | rfl | exact congrArg (Value.int .u64) (by omega)
        · rw [hexs_cons, hq]; simp only [upd]; rfl
        · simp only [upd]; first | rfl | exact congrArg i64 (by omega)
      · obtain rfl : i = 13 := by omega
        have hlen := hexs_len 13 pt
        simp (disch := omega) only [push_cast, Nat.reduceEqDiff, h3, h6]
        refine addS (m := [110, 97, 110]) (by simp only [List.length_cons, List.length_nil, List.length_append]; omega) ?_
        simp (disch := omega) only [push_cast, Nat.reduceEqDiff, h6]
        refine addS (by simp only [List.length_cons, List.length_nil, List.length_append]; omega) ?_
        simp (disch := omega) only [push_cast, Nat.reduceEqDiff]
        exact finIs hL (by rw [hT, fu, if_neg (by omega), List.append_assoc])
    · simp (disch := omega) only [push_cast, Nat.reduceEqDiff, h4, h5]
      rw [V_cond]
      simp (disch := omega) only [push_cast, Nat.reduceEqDiff, h4, h5]
      rw [V_cond]
      simp (disch := omega) only [push_cast, Nat.reduceEqDiff, h4, h5]
      refine condX_d (fun h => absurd h hA) (fun _ => ?_)
      simp (disch := omega) only [push_cast, Nat.reduceEqDiff, h4, h5]
      refine guardX_t rfl (fun hB => ?_) (fun hB => ?_)
      · simp (disch := omega) only [push_cast, Nat.reduceEqDiff, h4, h5]
        rw [V_cond]
        simp (disch := omega) only [push_cast, Nat.reduceEqDiff, h3, h4, h5]
        refine condX_d (fun hC => ?_) (fun hC => ?_)
        · simp (disch := omega) only [push_cast, Nat.reduceEqDiff, h3]
          refine addS (m := [48, 112, 48]) (by simp only [List.length_cons, List.length_nil, List.length_append]; omega) ?_
          simp (disch := omega) only [push_cast, Nat.reduceEqDiff]
          exact finIs hL (by rw [hT]; unfold floatU; rw [hpw, if_neg (by omega), if_pos (by omega)])
        simp (disch := omega) only [push_cast, Nat.reduceEqDiff, h4]
        rw [V_cond]
        simp (disch := omega) only [push_cast, Nat.reduceEqDiff, h4]
        refine condX_d (fun hD => absurd hD (by omega)) (fun _ => ?_)
        simp (disch := omega) only [push_cast, Nat.reduceEqDiff, h4]
        exact ⟨rfl, rfl, rfl, ⟨by omega, by omega⟩, h3, h4, by rw [if_pos (by omega)]; exact h5⟩
      · simp (disch := omega) only [push_cast, Nat.reduceEqDiff, h4, h5]
        rw [V_cond]
        simp (disch := omega) only [push_cast, Nat.reduceEqDiff, h3, h4, h5]
        rw [V_cond]
        simp (disch := omega) only [push_cast, Nat.reduceEqDiff, h4]
        refine condX_d (fun hD => ?_) (fun hD => absurd (show (0 : Int) < pw by omega) hD)
        simp (disch := omega) only [push_cast, Nat.reduceEqDiff, h4, h5, or52]
        exact ⟨rfl, rfl, rfl, ⟨by omega, by omega⟩, h3, h4, by rw [if_neg (by omega)]; simp only [upd]; first | rfl | exact congrArg (Value.int .u64) (by omega)⟩
  · clear h3 h4 h5 e
    rintro wb e ds L ⟨rfl, rfl, rfl, ⟨k1, k2⟩, h3, h4, h5⟩
    have hlenT := floatU_len m3
    have hlm : fracM (magU n) = if pw = 0 then pt else pt + 4503599627370496 := by unfold fracM; rw [hpw, hpt]
    have hle : expE (magU n) = max (pw : Int) 1 - 1075 := by unfold expE; rw [hpw]; omega
    have hx0 : 0 < magU n := by omega
    have hxp : magU n / 4503599627370496 < 2047 := by omega
    obtain ⟨hfin, _⟩ := bits_forth hx0 hxp
    have hfu : floatU (magU n) = finT (oddM (magU n)) (oddE (magU n)) := by unfold floatU; rw [if_neg (by omega), if_neg (by omega)]
    have hf0 : 0 < fracM (magU n) ∧ fracM (magU n) < 9007199254740992 := by rw [hlm]; split <;> omega
    simp (disch := omega) only [push_cast, Nat.reduceEqDiff, h4, max_i]
    rw [V_block]
    simp (disch := omega) only [push_cast, Nat.reduceEqDiff, h4, max_i]
    refine loopW (G := Nat × Int) (fun g => FlM wb (sgn n) (oddM (magU n)) (oddE (magU n)) g.1 g.2) (fun g => g.1) (fracM (magU n), expE (magU n)) _ (fun w hw => hw) (by kernel_rfl) ⟨rfl, rfl, rfl, hf0, ⟨rfl, rfl⟩, by rw [hle]; simp only; omega, h3, by rw [hlm]; exact h5, by rw [hle]; rfl⟩ ?_
    clear h3 h4 h5 e
    rintro ⟨m, a⟩ wb e ds L ⟨rfl, rfl, rfl, ⟨c1, c2⟩, ⟨q1, q2⟩, ⟨b1, b2⟩, h3, h5, h7⟩
    simp only at c1 c2 q1 q2 b1 b2 h5 h7
    simp (disch := omega) only [push_cast, Nat.reduceEqDiff, h5, and1]
    rw [V_cond]
    simp (disch := omega) only [push_cast, Nat.reduceEqDiff, h5]
    refine condX_d (fun hev => ?_) (fun hodd => ?_)
    · simp (disch := omega) only [push_cast, Nat.reduceEqDiff, h5]
      rw [V_block]
      simp (disch := omega) only [push_cast, Nat.reduceEqDiff, h5, h7, shr1]
      obtain ⟨t1, t2, t3⟩ := twos_spec 64 m c1 (by have : (2 : Nat) ^ 64 = 18446744073709551616 := rfl; omega)
      have ht : twos 64 m = twos 63 (m / 2) + 1 := by rw [twos, if_pos (by omega)]
      have ht2 : twos 64 (m / 2) = twos 63 (m / 2) := by
        obtain ⟨r1, r2, r3⟩ := twos_spec 63 (m / 2) (by omega) (by have : (2 : Nat) ^ 63 = 9223372036854775808 := rfl; omega)
        conv => lhs; rw [r1]
        exact twos_mul _ 64 _ r2 (by omega)
      have hab : a + 1 ≤ 1100 := by have := hfin.hi; have := hfin.len; omega
      refine ⟨(m / 2, a + 1), _, fun w hw => hw, ⟨rfl, rfl, rfl, ⟨by simp only; omega, by simp only; omega⟩, ⟨?_, ?_⟩, ⟨by simp only; omega, hab⟩, h3, ?_, ?_⟩, by simp only; omega⟩
      · rw [q1, ht, ht2, Nat.pow_succ, Nat.mul_comm, ← Nat.div_div_eq_div_mul]
      · rw [q2, ht, ht2]; push_cast; omega
      · simp only [upd]; first | rfl | exact congrArg (Value.int .u64) (by omega)
      · simp only [upd]; first | rfl | exact congrArg i64 (by omega)
    · have hm : oddM (magU n) = m := by rw [q1, twos_odd (by omega), Nat.pow_zero, Nat.div_one]
      have ha : oddE (magU n) = a := by rw [q2, twos_odd (by omega)]; simp
      have hl1 := dec_len (u := m) (by omega)
      have hl2 := itoa_len (n := a) (by omega) (by omega)
      simp (disch := omega) only [push_cast, Nat.reduceEqDiff, h3, h5]
      refine callV en_48 (callX_is (fun w' hw' => formatUint_walk w' (hl.mono hw' (by simp)) m (by omega)) ?_)
      simp (disch := omega) only [push_cast, Nat.reduceEqDiff, h3]
      refine addS (m := [112]) (by simp only [List.length_cons, List.length_nil, List.length_append]; omega) ?_
      simp (disch := omega) only [push_cast, Nat.reduceEqDiff, h7]
      refine callV en_87 (callX_is (fun w' hw' => itoa_walk w' (hl.mono hw' (by simp)) a (by omega) (by omega)) ?_)
      simp (disch := omega) only [push_cast, Nat.reduceEqDiff]
      refine addS (by simp only [List.length_cons, List.length_nil, List.length_append]; omega) ?_
      simp (disch := omega) only [push_cast, Nat.reduceEqDiff]
      exact finIs hL (by rw [hT, hfu, hm, ha]; unfold finT; simp)
end Go.Proofs.YtilejcofleeeiaaGreatDoor
