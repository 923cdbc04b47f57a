/- YtdmdgkpjjpijdaaDoor: rules for bytes and small numbers. -/
import Derived.Test.YtdmdgkpjjpijdaaDoorKp
import Derived.Laws.Shifts
import Derived.Laws.BitsLemmas
import Derived.Test.YtdmdgkpjjpijdaaDoorW11
import Derived.Test.YtdmdgkpjjpijdaaDoorKn
import Derived.Test.YtdmdgkpjjpijdaaDoorW37
namespace Go.Proofs.YtdmdgkpjjpijdaaDoor
open Go Go.K
set_option linter.unusedVariables false
set_option linter.unusedSimpArgs false
variable {K : Value → Prop}
@[push_cast] theorem bin_shr8 (t : TypeId) (x y : Operand) (n : Int) : PureX Tryd.prog (binV .shr t x y (.int .u8 n) (.int .u64 4)) (tag K) = K (.int .u8 (n / 16)) := px (fun w => by simp [binV, eqGuard, binOp, shift_shr_any, IntKind.bits]) K
@[push_cast] theorem bin_and8 (t : TypeId) (x y : Operand) (n : Int) (h0 : 0 ≤ n) (h1 : n < 256) : PureX Tryd.prog (binV .and t x y (.int .u8 n) (.int .u8 15)) (tag K) = K (.int .u8 (n % 16)) := px (fun w => by simp [binV, eqGuard, binOp_and, intBits_and, u8_and15 n h0 h1]) K
@[push_cast] theorem bin_quo10 (t : TypeId) (x y : Operand) (n : Int) (h0 : 0 ≤ n) (h1 : n < 1000) : PureX Tryd.prog (binV .quo t x y (i64 n) (i64 10)) (tag K) = K (i64 (n / 10)) := px (fun w => by simp [binV, eqGuard, binOp, Op.intDiv]; rw [Int.tdiv_eq_ediv_of_nonneg h0, wrap_id64 _ (by omega) (by omega)]) K
@[push_cast] theorem bin_rem10 (t : TypeId) (x y : Operand) (n : Int) (h0 : 0 ≤ n) (h1 : n < 1000) : PureX Tryd.prog (binV .rem t x y (i64 n) (i64 10)) (tag K) = K (i64 (n % 10)) := px (fun w => by simp [binV, eqGuard, binOp, Op.intDiv]; rw [Int.tmod_eq_emod_of_nonneg h0]) K
theorem bs4 {y1 y2 y3 y4 : Int} {wb : World} {L : Own} {K : Value → World → Own → Prop} (h : NewX wb L (.cells #[.int .u8 y1, .int .u8 y2, .int .u8 y3, .int .u8 y4] 5 (0, 0)) (tag fun b L => K (.slice (some ⟨b, 0, none⟩) 4 4) wb L)) : ValX Tryd.prog (Instr.buildSlice 72 4 #[(0, .int .u8 y1), (1, .int .u8 y2), (2, .int .u8 y3), (3, .int .u8 y4)]) wb L (tag K) := valX_new (fun w => by kernel_rfl) h
end Go.Proofs.YtdmdgkpjjpijdaaDoor
/- YtdmdgkpjjpijdaaDoor: walks, part 41: small numbers as text. -/
namespace Go.Proofs.YtdmdgkpjjpijdaaDoor
open Go Go.K
set_option maxRecDepth 100000
set_option linter.unusedVariables false
set_option linter.unusedSimpArgs false
set_option maxHeartbeats 4000000
def digs (n : Int) : List UInt8 := if n < 10 then [UInt8.ofNat (48 + n.toNat)] else [UInt8.ofNat (48 + n.toNat / 10), UInt8.ofNat (48 + n.toNat % 10)]
theorem small_walk (w : World) (k : Nat) (h1 : k < 100) : Calls Tryd.prog 73 #[i64 k] w (Rets w (Is (str (digs k)))) := by
  refine enterT (args := [i64 k]) Tryd.func73 rfl Tryd.ntmps73 (congrArg Array.toList Tryd.results73) (by kernel_rfl) (by simp) (Sy.refl w) ?_
  simp (disch := omega) only [push_cast, Nat.reduceEqDiff]
  rw [V_cond]
  simp (disch := omega) only [push_cast, Nat.reduceEqDiff]
  refine condX_d (fun hlt => ?_) (fun hge => ?_)
  · simp (disch := omega) only [push_cast, Nat.reduceEqDiff]
    refine Eq.mpr (ssLoHi_9 _ .i64 k (k + 1) (by omega) (by omega) (Int.le_trans (by omega : (k : Int) + 1 ≤ 36) (by decide +kernel))) ?_
    simp (disch := omega) only [push_cast, Nat.reduceEqDiff]
    refine finIs (by simp) (congrArg str ?_)
    have h2 : k < 10 := by omega
    clear hlt h1
    revert k
    decide +kernel
  · simp (disch := omega) only [push_cast, Nat.reduceEqDiff]
    refine Eq.mpr (ssLoHi_9 _ .i64 (k * 2) (k * 2 + 2) (by omega) (by omega) (Int.le_trans (by omega : (k : Int) * 2 + 2 ≤ 200) (by decide +kernel))) ?_
    simp (disch := omega) only [push_cast, Nat.reduceEqDiff]
    refine finIs (by simp) (congrArg str ?_)
    have h2 : 10 ≤ k := by omega
    clear hge
    revert h2
    revert k
    decide +kernel
@[push_cast] theorem wrap_idu64 (n : Int) (h1 : 0 ≤ n) (h2 : n ≤ 18446744073709551615) : IntKind.u64.wrap n = n := by
  simp only [IntKind.wrap, IntKind.bits, IntKind.signed, Bool.false_and, Bool.false_eq_true, if_false]
  exact Int.emod_eq_of_lt h1 (by omega)
theorem appendUint_walk (wb w : World) (L M : Own) (v : Value) (k : Nat) (xs : List Value) (n : Nat) (hw : Sy wb L w) (hM : ∀ p ∈ M, wb.heap.size ≤ p.1) (hro : RowO wb 5 1 L M v k xs) (hn : n < 100) (hk : k + 2 ≤ 70368744177664) :
    Calls Tryd.prog 69 #[v, .int .u64 n, i64 10] w (fun e w' => ∃ v' L', e = .returned v' ∧ Sy wb L' w' ∧ RowO wb 5 1 L' M v' (k + (digs n).length) (xs ++ bytesV (digs n))) := by
  refine enterB (args := [v, .int .u64 n, i64 10]) Tryd.func69 rfl Tryd.ntmps69 (congrArg Array.toList Tryd.results69) (by kernel_rfl) (by simp) hw ?_
  have hd : (digs n).length ≤ 2 := by unfold digs; split <;> simp
  simp (disch := omega) only [push_cast, Nat.reduceEqDiff]
  rw [V_cond]
  simp (disch := omega) only [push_cast, Nat.reduceEqDiff, decide_true]
  rw [V_cond]
  simp (disch := omega) only [push_cast, Nat.reduceEqDiff]
  refine condX_d (fun hlt => ?_) (fun hge => absurd (show (n : Int) < 100 by omega) hge)
  simp (disch := omega) only [push_cast, Nat.reduceEqDiff]
  refine callV en_73 (callX_is (fun w' hw' => small_walk w' n hn) ?_)
  simp (disch := omega) only [push_cast, Nat.reduceEqDiff]
  refine appendS (digs n) un_72 Tryd.underlying9 infoU8 hro (by omega) (fun v2 L2 hro2 => ?_)
  simp (disch := omega) only [push_cast, Nat.reduceEqDiff]
  exact fun w' hw' => ⟨_, L2, rfl, hw', hro2⟩
theorem appendInt1_walk (wb w : World) (L M : Own) (v : Value) (k : Nat) (xs : List Value) (n : Nat) (hw : Sy wb L w) (hM : ∀ p ∈ M, wb.heap.size ≤ p.1) (hro : RowO wb 5 1 L M v k xs) (hn : n < 100) (hk : k + 2 ≤ 70368744177664) :
    Calls Tryd.prog 66 #[v, i64 n, i64 10] w (fun e w' => ∃ v' L', e = .returned v' ∧ Sy wb L' w' ∧ RowO wb 5 1 L' M v' (k + (digs n).length) (xs ++ bytesV (digs n))) := by
  refine enterB (args := [v, i64 n, i64 10]) Tryd.func66 rfl Tryd.ntmps66 (congrArg Array.toList Tryd.results66) (by kernel_rfl) (by simp) hw ?_
  simp (disch := omega) only [push_cast, Nat.reduceEqDiff]
  rw [V_cond]
  simp (disch := omega) only [push_cast, Nat.reduceEqDiff]
  refine condX_d (fun hlt => absurd hlt (by omega)) (fun hge => ?_)
  simp (disch := omega) only [push_cast, Nat.reduceEqDiff]
  refine callV en_69 (callX_own (fun w' hw' => appendUint_walk wb w' L M v k xs n hw' hM hro hn hk) (fun v2 L2 hro2 => ?_))
  simp (disch := omega) only [push_cast, Nat.reduceEqDiff]
  exact fun w' hw' => ⟨_, L2, rfl, hw', hro2⟩
theorem appendInt_walk (wb w : World) (L M : Own) (v : Value) (k : Nat) (xs : List Value) (n : Nat) (hw : Sy wb L w) (hM : ∀ p ∈ M, wb.heap.size ≤ p.1) (hro : RowO wb 5 1 L M v k xs) (hn : n < 100) (hk : k + 2 ≤ 70368744177664) :
    Calls Tryd.prog 60 #[v, i64 n, i64 10] w (fun e w' => ∃ v' L', e = .returned v' ∧ Sy wb L' w' ∧ RowO wb 5 1 L' M v' (k + (digs n).length) (xs ++ bytesV (digs n))) := by
  refine enterB (args := [v, i64 n, i64 10]) Tryd.func60 rfl Tryd.ntmps60 (congrArg Array.toList Tryd.results60) (by kernel_rfl) (by simp) hw ?_
  simp (disch := omega) only [push_cast, Nat.reduceEqDiff]
  refine callV en_66 (callX_own (fun w' hw' => appendInt1_walk wb w' L M v k xs n hw' hM hro hn hk) (fun v2 L2 hro2 => ?_))
  simp (disch := omega) only [push_cast, Nat.reduceEqDiff]
  exact fun w' hw' => ⟨_, L2, rfl, hw', hro2⟩
end Go.Proofs.YtdmdgkpjjpijdaaDoor
