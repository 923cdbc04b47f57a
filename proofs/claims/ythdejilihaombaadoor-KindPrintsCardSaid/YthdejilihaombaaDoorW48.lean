/- YthdejilihaombaaDoor: walks, part 46: the reference's text of small numbers and of kinds. -/
import Derived.Test.YthdejilihaombaaDoorW41
import Derived.Test.YthdejilihaombaaDoorW42
namespace Go.Proofs.YthdejilihaombaaDoor
open Go Go.K
set_option maxRecDepth 100000
set_option linter.unusedVariables false
set_option linter.unusedSimpArgs false
set_option maxHeartbeats 4000000
theorem digit_byte (k : Nat) : ∃ c : UInt8, c = UInt8.ofNat (48 + k % 10) ∧ (48 + (k : Int) % 10) = (c.toNat : Int) := ⟨_, rfl, by
  rw [UInt8.toNat_ofNat', Nat.mod_eq_of_lt (by omega)]
  omega⟩
theorem digits1_walk (w : World) (k : Nat) (hk : k < 10) : Calls Tryd.prog 111 #[i64 k] w (Rets w (Is (str (digs k)))) := by
  refine enterT (args := [i64 k]) Tryd.func111 rfl Tryd.ntmps111 (congrArg Array.toList Tryd.results111) (by kernel_rfl) (by simp) (Sy.refl w) ?_
  obtain ⟨c, hc, hci⟩ := digit_byte k
  simp (disch := omega) only [push_cast, Nat.reduceEqDiff, hci]
  refine bs_97_1 (newI fun b8 hb8 hn8 => ?_)
  simp (disch := omega) only [push_cast, Nat.reduceEqDiff, hci]
  have hro : RowO w 5 1 [(b8, Obj.cells (bytesV [c]).toArray 5 (0, 0))] [] (.slice (some ⟨b8, 0, none⟩) 1 1) 1 (bytesV [c]) := ⟨rfl, .inr ⟨b8, 1, bytesV [c], rfl, rfl, hb8, Nat.le_refl _, by simp only [maxLen]; omega, rfl, rfl⟩⟩
  refine convS un_97 Tryd.underlying5 Tryd.underlying9 (s := [c]) hro ?_
  simp (disch := omega) only [push_cast, Nat.reduceEqDiff, hci]
  rw [V_cond]
  simp (disch := omega) only [push_cast, Nat.reduceEqDiff, hci]
  refine condX_d (fun h => absurd h (by omega)) (fun _ => ?_)
  simp (disch := omega) only [push_cast, Nat.reduceEqDiff, hci]
  refine finIs (hro.new (by simp)) ?_
  unfold digs
  rw [if_pos (by omega), hc, Int.toNat_natCast, Nat.mod_eq_of_lt hk]
theorem digits_walk (w : World) (k : Nat) (hk : k < 100) : Calls Tryd.prog 111 #[i64 k] w (Rets w (Is (str (digs k)))) := by
  rcases Nat.lt_or_ge k 10 with h10 | h10
  · exact digits1_walk w k h10
  refine enterT (args := [i64 k]) Tryd.func111 rfl Tryd.ntmps111 (congrArg Array.toList Tryd.results111) (by kernel_rfl) (by simp) (Sy.refl w) ?_
  obtain ⟨c, hc, hci⟩ := digit_byte k
  simp (disch := omega) only [push_cast, Nat.reduceEqDiff, hci]
  refine bs_97_1 (newI fun b8 hb8 hn8 => ?_)
  simp (disch := omega) only [push_cast, Nat.reduceEqDiff, hci]
  have hro : RowO w 5 1 [(b8, Obj.cells (bytesV [c]).toArray 5 (0, 0))] [] (.slice (some ⟨b8, 0, none⟩) 1 1) 1 (bytesV [c]) := ⟨rfl, .inr ⟨b8, 1, bytesV [c], rfl, rfl, hb8, Nat.le_refl _, by simp only [maxLen]; omega, rfl, rfl⟩⟩
  refine convS un_97 Tryd.underlying5 Tryd.underlying9 (s := [c]) hro ?_
  simp (disch := omega) only [push_cast, Nat.reduceEqDiff, hci]
  rw [V_cond]
  simp (disch := omega) only [push_cast, Nat.reduceEqDiff, hci]
  refine condX_d (fun _ => ?_) (fun h => absurd (by omega) h)
  obtain ⟨m, hm, hq⟩ : ∃ m : Nat, m = k / 10 ∧ (k : Int) / 10 = (m : Int) := ⟨_, rfl, by omega⟩
  simp (disch := omega) only [push_cast, Nat.reduceEqDiff, hci, hq]
  refine callV en_111 (callX_is (fun w' hw' => digits1_walk w' m (by omega)) ?_)
  simp (disch := omega) only [push_cast, Nat.reduceEqDiff, hci, hq]
  have hd : digs (m : Int) = [UInt8.ofNat (48 + k / 10)] := by unfold digs; rw [if_pos (by omega), Int.toNat_natCast, hm]
  rw [hd]
  refine Eq.mpr (bin_str_add [UInt8.ofNat (48 + k / 10)] [c] _ _ (by simp)) ?_
  simp (disch := omega) only [push_cast, Nat.reduceEqDiff, hci]
  refine finIs (hro.new (by simp)) ?_
  unfold digs
  rw [if_neg (by omega), hc, Int.toNat_natCast]
theorem digitsZ_walk (w : World) (n : Int) (h0 : 0 ≤ n) (h1 : n < 100) : Calls Tryd.prog 111 #[i64 n] w (Rets w (Is (str (digs n)))) := by
  obtain ⟨m, rfl⟩ := Int.eq_ofNat_of_zero_le h0
  exact digits_walk w m (by omega)
theorem word_walk (w : World) (k : Int) (h1 : 1 ≤ k) (h2 : k ≤ 13) : Calls Tryd.prog 112 #[i64 k] w (Rets w (Is (str (saysWord k.toNat)))) := by
  refine enterT (args := [i64 k]) Tryd.func112 rfl Tryd.ntmps112 (congrArg Array.toList Tryd.results112) (by kernel_rfl) (by simp) (Sy.refl w) ?_
  simp (disch := omega) only [push_cast, Nat.reduceEqDiff]
  rw [V_block]
  have hk : k = 1 ∨ k = 2 ∨ k = 3 ∨ k = 4 ∨ k = 5 ∨ k = 6 ∨ k = 7 ∨ k = 8 ∨ k = 9 ∨ k = 10 ∨ k = 11 ∨ k = 12 ∨ k = 13 := by omega
  rcases hk with rfl | rfl | rfl | rfl | rfl | rfl | rfl | rfl | rfl | rfl | rfl | rfl | rfl
  all_goals
    simp (disch := omega) only [push_cast, Nat.reduceEqDiff, decide_true, decide_false, Int.reduceEq]
    repeat (rw [V_cond]; simp (disch := omega) only [push_cast, Nat.reduceEqDiff, decide_true, decide_false, Int.reduceEq])
    exact finIs (by simp) rfl
end Go.Proofs.YthdejilihaombaaDoor
/- YthdejilihaombaaDoor: walks, part 47: the reference's text of types and fields. -/
namespace Go.Proofs.YthdejilihaombaaDoor
open Go Go.K
set_option maxRecDepth 100000
set_option linter.unusedVariables false
set_option linter.unusedSimpArgs false
set_option maxHeartbeats 400000
def fieldT (f : Fld) : List UInt8 := f.nm ++ ([32] ++ (textG f ++ if f.nl then [63] else []))
def FieldsR (n : Nat) : Prop := ∀ (w : World) (lo : Nat) (l : List Fld) (a : Option Addr) (c : Nat), lo ≤ w.heap.size → Rd w lo a l → l.length ≤ c → c ≤ 9223372036854775807 → okM l = true → SizeOf.sizeOf l < n → (textM 0 l).length ≤ 35184372088832 → Calls Tryd.prog 62 #[.slice a l.length c] w (Rets w (Is (str (textM 0 l))))
def TypeR (n : Nat) : Prop := ∀ (w : World) (lo : Nat) (f : Fld) (a : Option Addr) (c : Nat), lo ≤ w.heap.size → Rd w lo a f.sub → f.sub.length ≤ c → c ≤ 9223372036854775807 → okG f = true → SizeOf.sizeOf f < n → (textG f).length ≤ 35184372088832 → Calls Tryd.prog 96 #[.agg #[i64 f.k, i64 f.wd, i64 f.id, i64 f.ix, .slice a f.sub.length c]] w (Rets w (Is (str (textG f))))
theorem typeR_step (n : Nat) (hF : FieldsR n) : TypeR (n + 1) := by
  intro w lo f a c hlo hr hc hc2 he hsz hlen
  obtain ⟨k1, k2, kw, kd, hel⟩ := (okG_iff f).1 he
  refine enterT (args := [.agg #[i64 f.k, i64 f.wd, i64 f.id, i64 f.ix, .slice a f.sub.length c]]) Tryd.func96 rfl Tryd.ntmps96 (congrArg Array.toList Tryd.results96) (by kernel_rfl) (by simp) (Sy.refl w) ?_
  simp (disch := omega) only [push_cast, Nat.reduceEqDiff]
  refine newI (fun b1 hb1 hn1 => ?_)
  have hL : ∀ p ∈ [(b1, Obj.cells #[i64 f.k, i64 f.wd, i64 f.id, i64 f.ix, .slice a f.sub.length c] 24 (0, 0))], w.heap.size ≤ p.1 := fun p hp => by rw [List.mem_singleton.1 hp]; exact hb1
  simp (disch := omega) only [push_cast, Nat.reduceEqDiff]
  repeat' (first | ((first | refine guardX_t rfl (fun h => ?_) (fun h => ?_) | refine guardX_f rfl (fun h => ?_) (fun h => ?_) | refine condX_d (fun h => ?_) (fun h => ?_) | (refine guardX_bt rfl (fun h => ?_) (fun h => ?_) <;> (try subst h)) | (refine guardX_bf rfl (fun h => ?_) (fun h => ?_) <;> (try subst h)) | (refine condX_b (fun h => ?_) (fun h => ?_) <;> (try subst h)) | refine ldOne Shp.eq (by (first | exact mem0 | exact mem1 | exact mem2 | exact mem3 | exact mem4 | exact mem5)) rfl ?_ | refine loadX_agg Shp.eq (by (first | exact mem0 | exact mem1 | exact mem2 | exact mem3 | exact mem4 | exact mem5)) rfl rfl ?_ | refine newI (fun b hb hn => ?_) | refine storeX 0 rfl Siz.eq rfl rfl (by simp [Value.oneCell']) (by simp) ?_ | refine storeX 1 rfl Siz.eq rfl rfl (by simp [Value.oneCell']) (by simp) ?_ | refine storeX 2 rfl Siz.eq rfl rfl (by simp [Value.oneCell']) (by simp) ?_ | refine storeX 3 rfl Siz.eq rfl rfl (by simp [Value.oneCell']) (by simp) ?_ | refine storeX 4 rfl Siz.eq rfl rfl (by simp [Value.oneCell']) (by simp) ?_ | refine storeX 5 rfl Siz.eq rfl rfl (by simp [Value.oneCell']) (by simp) ?_ | refine storeX 6 rfl Siz.eq rfl rfl (by simp [Value.oneCell']) (by simp) ?_) <;> simp (disch := omega) only [push_cast, Nat.reduceEqDiff]))
  have hszs : SizeOf.sizeOf f.sub < n := by
    have : SizeOf.sizeOf f.sub < SizeOf.sizeOf f := by cases f; simp only [Fld.sub, Fld.mk.sizeOf_spec]; omega
    omega
  have hsubs : openK f.k → (textM 0 f.sub).length + (midT f.k f.wd f.id f.ix).length + 20 ≤ 35184372088940 := fun h => by
    rw [textG_eq, if_neg (by omega), if_pos h] at hlen
    simp only [List.length_append, List.length_cons, List.length_nil] at hlen
    omega
  have hcall : openK f.k → ∀ w', Sy w [(b1, Obj.cells #[i64 f.k, i64 f.wd, i64 f.id, i64 f.ix, .slice a f.sub.length c] 24 (0, 0))] w' → Calls Tryd.prog 62 #[.slice a f.sub.length c] w' (Rets w' (Is (str (textM 0 f.sub)))) := fun h w' hw' =>
    hF w' lo f.sub a c (Nat.le_trans hlo hw'.size) (hr.sy hlo hw' (fun p hp => Nat.le_trans hlo (hL p hp))) hc hc2 hel hszs (by
      rw [textG_eq, if_neg (by omega), if_pos h] at hlen
      simp only [List.length_append, List.length_cons, List.length_nil] at hlen
      omega)
  rw [V_block]
  simp (disch := omega) only [push_cast, Nat.reduceEqDiff]
  by_cases h14 : f.k = 14
  · have d14 : decide (f.k = 14) = true := decide_eq_true h14
    rw [V_cond]
    simp (disch := omega) only [push_cast, Nat.reduceEqDiff, d14]
    obtain ⟨w1, w2⟩ := kw (.inl h14)
    have hdl := digs_le f.wd
    refine ldOne Shp.eq mem0 rfl ?_
    simp (disch := omega) only [push_cast, Nat.reduceEqDiff, d14]
    refine callV en_111 (callX_is (fun w' hw' => digitsZ_walk w' f.wd w1 w2) ?_)
    simp (disch := omega) only [push_cast, Nat.reduceEqDiff, d14]
    refine Eq.mpr (bin_str_add _ _ _ _ ?_) ?_
    · simp only [List.length_append, List.length_cons, List.length_nil]; omega
    simp (disch := omega) only [push_cast, Nat.reduceEqDiff, d14]
    refine Eq.mpr (bin_str_add _ _ _ _ ?_) ?_
    · simp only [List.length_append, List.length_cons, List.length_nil]; omega
    simp (disch := omega) only [push_cast, Nat.reduceEqDiff, d14]
    exact finIs hL (congrArg str (by rw [textG_eq, if_pos h14, h14, ← List.append_assoc (saysWord _) [40], show saysWord (14 : Int).toNat ++ [40] = [102, 105, 120, 101, 100, 40] from by decide +kernel]; simp only [List.append_assoc, List.nil_append, List.cons_append]))
  have d14 : decide (f.k = 14) = false := decide_eq_false h14
  rw [V_cond]
  simp (disch := omega) only [push_cast, Nat.reduceEqDiff, d14]
  by_cases h15 : f.k = 15
  · have d15 : decide (f.k = 15) = true := decide_eq_true h15
    rw [V_cond]
    simp (disch := omega) only [push_cast, Nat.reduceEqDiff, d14, d15]
    have hop : openK f.k := by omega
    have hs1 := hsubs hop
    have hmid : midT f.k f.wd f.id f.ix = [] := by unfold midT; rw [if_neg (by omega), if_neg (by omega)]
    refine ldOne Shp.eq mem0 rfl ?_
    simp (disch := omega) only [push_cast, Nat.reduceEqDiff, d14, d15]
    refine callV en_62 (callX_is (hcall hop) ?_)
    simp (disch := omega) only [push_cast, Nat.reduceEqDiff, d14, d15]
    refine Eq.mpr (bin_str_add _ _ _ _ ?_) ?_
    · simp only [List.length_append, List.length_cons, List.length_nil]; omega
    simp (disch := omega) only [push_cast, Nat.reduceEqDiff, d14, d15]
    refine Eq.mpr (bin_str_add _ _ _ _ ?_) ?_
    · simp only [List.length_append, List.length_cons, List.length_nil]; omega
    simp (disch := omega) only [push_cast, Nat.reduceEqDiff, d14, d15]
    exact finIs hL (congrArg str (by rw [textG_eq, if_neg (by omega), if_pos hop, hmid, h15, ← List.append_assoc (saysWord _) [40], show saysWord (15 : Int).toNat ++ [40] = [108, 105, 115, 116, 40] from by decide +kernel]; simp only [List.append_assoc, List.nil_append, List.cons_append]))
  have d15 : decide (f.k = 15) = false := decide_eq_false h15
  rw [V_cond]
  simp (disch := omega) only [push_cast, Nat.reduceEqDiff, d14, d15]
  by_cases h16 : f.k = 16
  · have d16 : decide (f.k = 16) = true := decide_eq_true h16
    rw [V_cond]
    simp (disch := omega) only [push_cast, Nat.reduceEqDiff, d14, d15, d16]
    obtain ⟨w1, w2⟩ := kw (.inr h16)
    have hdl := digs_le f.wd
    have hop : openK f.k := by omega
    have hs1 := hsubs hop
    have hmid : midT f.k f.wd f.id f.ix = digs f.wd ++ [44, 32] := by unfold midT; rw [if_pos h16]
    refine drawQT (by kernel_rfl) (by kernel_rfl) mixed (by kernel_rfl) ?_
    simp (disch := omega) only [push_cast, Nat.reduceEqDiff, d14, d15, d16]
    refine ldOne Shp.eq mem0 rfl ?_
    simp (disch := omega) only [push_cast, Nat.reduceEqDiff, d14, d15, d16]
    refine qcallV en_111 (qcallX_is _ (fun w' hw' => digitsZ_walk w' f.wd w1 w2) ?_)
    simp (disch := omega) only [push_cast, Nat.reduceEqDiff, d14, d15, d16]
    refine Eq.mpr (bin_str_add _ _ _ _ ?_) ?_
    · simp only [List.length_append, List.length_cons, List.length_nil]; omega
    simp (disch := omega) only [push_cast, Nat.reduceEqDiff, d14, d15, d16]
    refine Eq.mpr (bin_str_add _ _ _ _ ?_) ?_
    · simp only [List.length_append, List.length_cons, List.length_nil]; omega
    simp (disch := omega) only [push_cast, Nat.reduceEqDiff, d14, d15, d16]
    refine ldOne Shp.eq mem0 rfl ?_
    simp (disch := omega) only [push_cast, Nat.reduceEqDiff, d14, d15, d16]
    refine qcallV en_62 (qcallX_is _ (hcall hop) ?_)
    simp (disch := omega) only [push_cast, Nat.reduceEqDiff, d14, d15, d16]
    refine Eq.mpr (bin_str_add _ _ _ _ ?_) ?_
    · simp only [List.length_append, List.length_cons, List.length_nil]; omega
    simp (disch := omega) only [push_cast, Nat.reduceEqDiff, d14, d15, d16]
    refine Eq.mpr (bin_str_add _ _ _ _ ?_) ?_
    · simp only [List.length_append, List.length_cons, List.length_nil]; omega
    simp (disch := omega) only [push_cast, Nat.reduceEqDiff, d14, d15, d16]
    exact finIs hL (congrArg str (by rw [textG_eq, if_neg (by omega), if_pos hop, hmid, h16, ← List.append_assoc (saysWord _) [40], show saysWord (16 : Int).toNat ++ [40] = [115, 112, 97, 110, 40] from by decide +kernel]; simp only [List.append_assoc, List.nil_append, List.cons_append]))
  have d16 : decide (f.k = 16) = false := decide_eq_false h16
  rw [V_cond]
  simp (disch := omega) only [push_cast, Nat.reduceEqDiff, d14, d15, d16]
  by_cases h17 : f.k = 17
  · have d17 : decide (f.k = 17) = true := decide_eq_true h17
    rw [V_cond]
    simp (disch := omega) only [push_cast, Nat.reduceEqDiff, d14, d15, d16, d17]
    have hop : openK f.k := by omega
    have hs1 := hsubs hop
    have hmid : midT f.k f.wd f.id f.ix = [] := by unfold midT; rw [if_neg (by omega), if_neg (by omega)]
    refine ldOne Shp.eq mem0 rfl ?_
    simp (disch := omega) only [push_cast, Nat.reduceEqDiff, d14, d15, d16, d17]
    refine callV en_62 (callX_is (hcall hop) ?_)
    simp (disch := omega) only [push_cast, Nat.reduceEqDiff, d14, d15, d16, d17]
    refine Eq.mpr (bin_str_add _ _ _ _ ?_) ?_
    · simp only [List.length_append, List.length_cons, List.length_nil]; omega
    simp (disch := omega) only [push_cast, Nat.reduceEqDiff, d14, d15, d16, d17]
    refine Eq.mpr (bin_str_add _ _ _ _ ?_) ?_
    · simp only [List.length_append, List.length_cons, List.length_nil]; omega
    simp (disch := omega) only [push_cast, Nat.reduceEqDiff, d14, d15, d16, d17]
    exact finIs hL (congrArg str (by rw [textG_eq, if_neg (by omega), if_pos hop, hmid, h17, ← List.append_assoc (saysWord _) [40], show saysWord (17 : Int).toNat ++ [40] = [115, 116, 114, 117, 99, 116, 40] from by decide +kernel]; simp only [List.append_assoc, List.nil_append, List.cons_append]))
  have d17 : decide (f.k = 17) = false := decide_eq_false h17
  rw [V_cond]
  simp (disch := omega) only [push_cast, Nat.reduceEqDiff, d14, d15, d16, d17]
  by_cases h18 : f.k = 18
  · have d18 : decide (f.k = 18) = true := decide_eq_true h18
    rw [V_cond]
    simp (disch := omega) only [push_cast, Nat.reduceEqDiff, d14, d15, d16, d17, d18]
    have hop : openK f.k := by omega
    have hs1 := hsubs hop
    have hmid : midT f.k f.wd f.id f.ix = [] := by unfold midT; rw [if_neg (by omega), if_neg (by omega)]
    refine ldOne Shp.eq mem0 rfl ?_
    simp (disch := omega) only [push_cast, Nat.reduceEqDiff, d14, d15, d16, d17, d18]
    refine callV en_62 (callX_is (hcall hop) ?_)
    simp (disch := omega) only [push_cast, Nat.reduceEqDiff, d14, d15, d16, d17, d18]
    refine Eq.mpr (bin_str_add _ _ _ _ ?_) ?_
    · simp only [List.length_append, List.length_cons, List.length_nil]; omega
    simp (disch := omega) only [push_cast, Nat.reduceEqDiff, d14, d15, d16, d17, d18]
    refine Eq.mpr (bin_str_add _ _ _ _ ?_) ?_
    · simp only [List.length_append, List.length_cons, List.length_nil]; omega
    simp (disch := omega) only [push_cast, Nat.reduceEqDiff, d14, d15, d16, d17, d18]
    exact finIs hL (congrArg str (by rw [textG_eq, if_neg (by omega), if_pos hop, hmid, h18, ← List.append_assoc (saysWord _) [40], show saysWord (18 : Int).toNat ++ [40] = [99, 104, 111, 105, 99, 101, 40] from by decide +kernel]; simp only [List.append_assoc, List.nil_append, List.cons_append]))
  have d18 : decide (f.k = 18) = false := decide_eq_false h18
  rw [V_cond]
  simp (disch := omega) only [push_cast, Nat.reduceEqDiff, d14, d15, d16, d17, d18]
  by_cases h19 : f.k = 19
  · have d19 : decide (f.k = 19) = true := decide_eq_true h19
    rw [V_cond]
    simp (disch := omega) only [push_cast, Nat.reduceEqDiff, d14, d15, d16, d17, d18, d19]
    obtain ⟨⟨w1, w2⟩, i1, i2⟩ := kd h19
    have hdl := digs_le f.id
    have hwl := saysWord_le f.ix.toNat
    have hop : openK f.k := by omega
    have hs1 := hsubs hop
    have hmid : midT f.k f.wd f.id f.ix = digs f.id ++ ([44, 32] ++ (saysWord f.ix.toNat ++ [44, 32])) := by unfold midT; rw [if_neg (by omega), if_pos h19]
    refine drawQT (by kernel_rfl) (by kernel_rfl) mixed (by kernel_rfl) ?_
    simp (disch := omega) only [push_cast, Nat.reduceEqDiff, d14, d15, d16, d17, d18, d19]
    refine ldOne Shp.eq mem0 rfl ?_
    simp (disch := omega) only [push_cast, Nat.reduceEqDiff, d14, d15, d16, d17, d18, d19]
    refine qcallV en_111 (qcallX_is _ (fun w' hw' => digitsZ_walk w' f.id w1 w2) ?_)
    simp (disch := omega) only [push_cast, Nat.reduceEqDiff, d14, d15, d16, d17, d18, d19]
    refine Eq.mpr (bin_str_add _ _ _ _ ?_) ?_
    · simp only [List.length_append, List.length_cons, List.length_nil]; omega
    simp (disch := omega) only [push_cast, Nat.reduceEqDiff, d14, d15, d16, d17, d18, d19]
    refine Eq.mpr (bin_str_add _ _ _ _ ?_) ?_
    · simp only [List.length_append, List.length_cons, List.length_nil]; omega
    simp (disch := omega) only [push_cast, Nat.reduceEqDiff, d14, d15, d16, d17, d18, d19]
    refine ldOne Shp.eq mem0 rfl ?_
    simp (disch := omega) only [push_cast, Nat.reduceEqDiff, d14, d15, d16, d17, d18, d19]
    refine qcallV en_112 (qcallX_is _ (fun w' hw' => word_walk w' f.ix i1 i2) ?_)
    simp (disch := omega) only [push_cast, Nat.reduceEqDiff, d14, d15, d16, d17, d18, d19]
    refine Eq.mpr (bin_str_add _ _ _ _ ?_) ?_
    · simp only [List.length_append, List.length_cons, List.length_nil]; omega
    simp (disch := omega) only [push_cast, Nat.reduceEqDiff, d14, d15, d16, d17, d18, d19]
    refine Eq.mpr (bin_str_add _ _ _ _ ?_) ?_
    · simp only [List.length_append, List.length_cons, List.length_nil]; omega
    simp (disch := omega) only [push_cast, Nat.reduceEqDiff, d14, d15, d16, d17, d18, d19]
    refine ldOne Shp.eq mem0 rfl ?_
    simp (disch := omega) only [push_cast, Nat.reduceEqDiff, d14, d15, d16, d17, d18, d19]
    refine qcallV en_62 (qcallX_is _ (hcall hop) ?_)
    simp (disch := omega) only [push_cast, Nat.reduceEqDiff, d14, d15, d16, d17, d18, d19]
    refine Eq.mpr (bin_str_add _ _ _ _ ?_) ?_
    · simp only [List.length_append, List.length_cons, List.length_nil]; omega
    simp (disch := omega) only [push_cast, Nat.reduceEqDiff, d14, d15, d16, d17, d18, d19]
    refine Eq.mpr (bin_str_add _ _ _ _ ?_) ?_
    · simp only [List.length_append, List.length_cons, List.length_nil]; omega
    simp (disch := omega) only [push_cast, Nat.reduceEqDiff, d14, d15, d16, d17, d18, d19]
    exact finIs hL (congrArg str (by rw [textG_eq, if_neg (by omega), if_pos hop, hmid, h19, ← List.append_assoc (saysWord _) [40], show saysWord (19 : Int).toNat ++ [40] = [100, 105, 99, 116, 40] from by decide +kernel]; simp only [List.append_assoc, List.nil_append, List.cons_append]))
  have d19 : decide (f.k = 19) = false := decide_eq_false h19
  rw [V_cond]
  simp (disch := omega) only [push_cast, Nat.reduceEqDiff, d14, d15, d16, d17, d18, d19]
  by_cases h20 : f.k = 20
  · have d20 : decide (f.k = 20) = true := decide_eq_true h20
    rw [V_cond]
    simp (disch := omega) only [push_cast, Nat.reduceEqDiff, d14, d15, d16, d17, d18, d19, d20]
    have hop : openK f.k := by omega
    have hs1 := hsubs hop
    have hmid : midT f.k f.wd f.id f.ix = [] := by unfold midT; rw [if_neg (by omega), if_neg (by omega)]
    refine ldOne Shp.eq mem0 rfl ?_
    simp (disch := omega) only [push_cast, Nat.reduceEqDiff, d14, d15, d16, d17, d18, d19, d20]
    refine callV en_62 (callX_is (hcall hop) ?_)
    simp (disch := omega) only [push_cast, Nat.reduceEqDiff, d14, d15, d16, d17, d18, d19, d20]
    refine Eq.mpr (bin_str_add _ _ _ _ ?_) ?_
    · simp only [List.length_append, List.length_cons, List.length_nil]; omega
    simp (disch := omega) only [push_cast, Nat.reduceEqDiff, d14, d15, d16, d17, d18, d19, d20]
    refine Eq.mpr (bin_str_add _ _ _ _ ?_) ?_
    · simp only [List.length_append, List.length_cons, List.length_nil]; omega
    simp (disch := omega) only [push_cast, Nat.reduceEqDiff, d14, d15, d16, d17, d18, d19, d20]
    exact finIs hL (congrArg str (by rw [textG_eq, if_neg (by omega), if_pos hop, hmid, h20, ← List.append_assoc (saysWord _) [40], show saysWord (20 : Int).toNat ++ [40] = [114, 117, 110, 115, 40] from by decide +kernel]; simp only [List.append_assoc, List.nil_append, List.cons_append]))
  have d20 : decide (f.k = 20) = false := decide_eq_false h20
  rw [V_cond]
  simp (disch := omega) only [push_cast, Nat.reduceEqDiff, d14, d15, d16, d17, d18, d19, d20]
  refine ldOne Shp.eq mem0 rfl ?_
  simp (disch := omega) only [push_cast, Nat.reduceEqDiff]
  refine callV en_112 (callX_is (fun w' hw' => word_walk w' f.k k1 (by omega)) ?_)
  simp (disch := omega) only [push_cast, Nat.reduceEqDiff]
  exact finIs hL (congrArg str (by rw [textG_eq, if_neg h14, if_neg (by omega), List.append_nil]))
end Go.Proofs.YthdejilihaombaaDoor
/- YthdejilihaombaaDoor: walks, part 48: the reference's text of lists of fields. -/
namespace Go.Proofs.YthdejilihaombaaDoor
open Go Go.K
set_option maxRecDepth 100000
set_option linter.unusedVariables false
set_option linter.unusedSimpArgs false
set_option maxHeartbeats 1000000
theorem fieldR_walk (n : Nat) (hT : TypeR n) (w : World) (lo : Nat) (f : Fld) (a : Option Addr) (c : Nat) (hlo : lo ≤ w.heap.size) (hr : Rd w lo a f.sub) (hc : f.sub.length ≤ c) (hc2 : c ≤ 9223372036854775807) (he : okG f = true) (hsz : SizeOf.sizeOf f < n) (hlen : (fieldT f).length ≤ 35184372088832) :
    Calls Tryd.prog 65 #[.agg #[str f.nm, .bool f.nl, i64 f.k, i64 f.wd, i64 f.id, i64 f.ix, .slice a f.sub.length c]] w (Rets w (Is (str (fieldT f)))) := by
  refine enterT (args := [.agg #[str f.nm, .bool f.nl, i64 f.k, i64 f.wd, i64 f.id, i64 f.ix, .slice a f.sub.length c]]) Tryd.func65 rfl Tryd.ntmps65 (congrArg Array.toList Tryd.results65) (by kernel_rfl) (by simp) (Sy.refl w) ?_
  simp (disch := omega) only [push_cast, Nat.reduceEqDiff]
  refine newI (fun b1 hb1 hn1 => ?_)
  have hL : ∀ p ∈ [(b1, Obj.cells #[str f.nm, .bool f.nl, i64 f.k, i64 f.wd, i64 f.id, i64 f.ix, .slice a f.sub.length c] 26 (0, 0))], w.heap.size ≤ p.1 := fun p hp => by rw [List.mem_singleton.1 hp]; exact hb1
  have hlen2 := hlen
  unfold fieldT at hlen2
  simp only [List.length_append, List.length_cons, List.length_nil] at hlen2
  simp (disch := omega) only [push_cast, Nat.reduceEqDiff]
  repeat' (first | ((first | refine guardX_t rfl (fun h => ?_) (fun h => ?_) | refine guardX_f rfl (fun h => ?_) (fun h => ?_) | refine condX_d (fun h => ?_) (fun h => ?_) | (refine guardX_bt rfl (fun h => ?_) (fun h => ?_) <;> (try subst h)) | (refine guardX_bf rfl (fun h => ?_) (fun h => ?_) <;> (try subst h)) | (refine condX_b (fun h => ?_) (fun h => ?_) <;> (try subst h)) | refine ldOne Shp.eq (by (first | exact mem0 | exact mem1 | exact mem2 | exact mem3 | exact mem4 | exact mem5)) rfl ?_ | refine loadX_agg Shp.eq (by (first | exact mem0 | exact mem1 | exact mem2 | exact mem3 | exact mem4 | exact mem5)) rfl rfl ?_ | refine newI (fun b hb hn => ?_) | refine storeX 0 rfl Siz.eq rfl rfl (by simp [Value.oneCell']) (by simp) ?_ | refine storeX 1 rfl Siz.eq rfl rfl (by simp [Value.oneCell']) (by simp) ?_ | refine storeX 2 rfl Siz.eq rfl rfl (by simp [Value.oneCell']) (by simp) ?_ | refine storeX 3 rfl Siz.eq rfl rfl (by simp [Value.oneCell']) (by simp) ?_ | refine storeX 4 rfl Siz.eq rfl rfl (by simp [Value.oneCell']) (by simp) ?_ | refine storeX 5 rfl Siz.eq rfl rfl (by simp [Value.oneCell']) (by simp) ?_ | refine storeX 6 rfl Siz.eq rfl rfl (by simp [Value.oneCell']) (by simp) ?_) <;> simp (disch := omega) only [push_cast, Nat.reduceEqDiff]))
  refine drawQT (by kernel_rfl) (by kernel_rfl) mixed (by kernel_rfl) ?_
  simp (disch := omega) only [push_cast, Nat.reduceEqDiff]
  refine ldOne Shp.eq mem0 rfl ?_
  simp (disch := omega) only [push_cast, Nat.reduceEqDiff]
  refine Eq.mpr (bin_str_add _ _ _ _ ?_) ?_
  · simp only [List.length_append, List.length_cons, List.length_nil]; omega
  simp (disch := omega) only [push_cast, Nat.reduceEqDiff]
  refine loadX_agg Shp.eq mem0 rfl rfl ?_
  simp (disch := omega) only [push_cast, Nat.reduceEqDiff]
  refine qcallV en_96 (qcallX_is _ (fun w' hw' => hT w' lo f a c (Nat.le_trans hlo hw'.size) (hr.sy hlo hw' (fun p hp => Nat.le_trans hlo (hL p hp))) hc hc2 he hsz (by omega)) ?_)
  simp (disch := omega) only [push_cast, Nat.reduceEqDiff]
  refine Eq.mpr (bin_str_add _ _ _ _ ?_) ?_
  · simp only [List.length_append, List.length_cons, List.length_nil]; omega
  simp (disch := omega) only [push_cast, Nat.reduceEqDiff]
  refine ldOne Shp.eq mem0 rfl ?_
  simp (disch := omega) only [push_cast, Nat.reduceEqDiff]
  rw [V_cond]
  simp (disch := omega) only [push_cast, Nat.reduceEqDiff]
  refine condX_b (fun hnl => ?_) (fun hnl => ?_)
  · rw [hnl] at hlen2
    simp only [if_true, List.length_cons, List.length_nil] at hlen2
    simp (disch := omega) only [push_cast, Nat.reduceEqDiff]
    refine Eq.mpr (bin_str_add _ _ _ _ ?_) ?_
    · simp only [List.length_append, List.length_cons, List.length_nil]; omega
    simp (disch := omega) only [push_cast, Nat.reduceEqDiff]
    refine finIs hL (congrArg str ?_)
    unfold fieldT
    rw [hnl]
    simp only [if_true, List.append_assoc, List.cons_append, List.nil_append]
  · simp (disch := omega) only [push_cast, Nat.reduceEqDiff]
    refine finIs hL (congrArg str ?_)
    unfold fieldT
    rw [hnl]
    simp only [Bool.false_eq_true, if_false, List.append_nil, List.append_assoc, List.cons_append, List.nil_append]
structure FtRI (w0 : World) (l : List Fld) (a : Option Addr) (c : Nat) (i : Nat) (wb : World) (e : Env) (ds : List Deferred) (L : Own) : Prop where
  hw : wb = w0
  hds : ds = []
  o : L = []
  il : i ≤ l.length
  h3 : e 3 = str (textM 0 (l.take i))
  h6 : e 6 = .slice a l.length c
  h7 : e 7 = i64 l.length
  h8 : e 8 = i64 i
theorem fieldsR_step (n : Nat) (hT : TypeR n) : FieldsR (n + 1) := by
  intro w lo l a c hlo hr hc hc2 he hsz hlen
  refine enterT (args := [.slice a l.length c]) Tryd.func62 rfl Tryd.ntmps62 (congrArg Array.toList Tryd.results62) (by kernel_rfl) (by simp) (Sy.refl w) ?_
  simp (disch := omega) only [push_cast, Nat.reduceEqDiff]
  rw [V_block]
  simp (disch := omega) only [push_cast, Nat.reduceEqDiff]
  refine loopW (G := Nat) (FtRI w l a c) (fun i => l.length - i) 0 [] (fun w hw => hw) (by kernel_rfl) ⟨rfl, rfl, rfl, by omega, by simp only [List.take_zero, textM]; rfl, rfl, rfl, rfl⟩ ?_
  rintro i wb e ds L ⟨rfl, rfl, rfl, hil, h3, h6, h7, h8⟩
  simp (disch := omega) only [push_cast, Nat.reduceEqDiff, h3, h6, h7, h8]
  rw [V_cond]
  simp (disch := omega) only [push_cast, Nat.reduceEqDiff, h3, h6, h7, h8]
  refine condX_d (fun hlt => ?_) (fun hge => ?_)
  · obtain ⟨f, hf⟩ : ∃ f, l[i]? = some f := ⟨_, List.getElem?_eq_getElem (by omega)⟩
    have htake : textM 0 (l.take (i + 1)) = textM 0 (l.take i) ++ (sepT i ++ fieldT f) := textM_take l i f hf
    have hle := textM_le l (i + 1)
    rw [htake] at hle
    simp only [List.length_append] at hle
    have hef := okM_get he hf
    have hszf : SizeOf.sizeOf f < n := by
      have := List.sizeOf_lt_of_mem (List.mem_of_getElem? hf)
      omega
    obtain ⟨b, off, rfl, hb⟩ : ∃ b off, a = some ⟨b, off, none⟩ ∧ b < lo := by
      obtain ⟨f0, l0, rfl⟩ : ∃ f l', l = f :: l' := List.exists_cons_of_ne_nil (by rintro rfl; simp at hf)
      exact hr.some_of
    obtain ⟨fa, fc, x1, x2, x3, x4, x5, x6⟩ := hr.get i hf
    simp (disch := omega) only [push_cast, Nat.reduceEqDiff, h3, h6, h7, h8]
    rw [V_block]
    simp (disch := omega) only [push_cast, Nat.reduceEqDiff, h3, h6, h7, h8]
    refine ldAggF Shp.eq x2 rfl (by simp) ?_
    simp (disch := omega) only [push_cast, Nat.reduceEqDiff, h3, h6, h7, h8, Fld.cells]
    refine newI (fun b5 hb5 hn5 => ?_)
    have hL5 : ∀ p ∈ [(b5, Obj.cells #[str f.nm, .bool f.nl, i64 f.k, i64 f.wd, i64 f.id, i64 f.ix, .slice fa f.sub.length fc] 26 (0, 0))], wb.heap.size ≤ p.1 := fun p hp => by rw [List.mem_singleton.1 hp]; exact hb5
    simp (disch := omega) only [push_cast, Nat.reduceEqDiff, h3, h6, h7, h8]
    repeat' (first | ((first | refine guardX_t rfl (fun h => ?_) (fun h => ?_) | refine guardX_f rfl (fun h => ?_) (fun h => ?_) | refine condX_d (fun h => ?_) (fun h => ?_) | (refine guardX_bt rfl (fun h => ?_) (fun h => ?_) <;> (try subst h)) | (refine guardX_bf rfl (fun h => ?_) (fun h => ?_) <;> (try subst h)) | (refine condX_b (fun h => ?_) (fun h => ?_) <;> (try subst h)) | refine ldOne Shp.eq (by (first | exact mem0 | exact mem1 | exact mem2 | exact mem3 | exact mem4 | exact mem5)) rfl ?_ | refine loadX_agg Shp.eq (by (first | exact mem0 | exact mem1 | exact mem2 | exact mem3 | exact mem4 | exact mem5)) rfl rfl ?_ | refine newI (fun b hb hn => ?_) | refine storeX 0 rfl Siz.eq rfl rfl (by simp [Value.oneCell']) (by simp) ?_ | refine storeX 1 rfl Siz.eq rfl rfl (by simp [Value.oneCell']) (by simp) ?_ | refine storeX 2 rfl Siz.eq rfl rfl (by simp [Value.oneCell']) (by simp) ?_ | refine storeX 3 rfl Siz.eq rfl rfl (by simp [Value.oneCell']) (by simp) ?_ | refine storeX 4 rfl Siz.eq rfl rfl (by simp [Value.oneCell']) (by simp) ?_ | refine storeX 5 rfl Siz.eq rfl rfl (by simp [Value.oneCell']) (by simp) ?_ | refine storeX 6 rfl Siz.eq rfl rfl (by simp [Value.oneCell']) (by simp) ?_) <;> simp (disch := omega) only [push_cast, Nat.reduceEqDiff, h3, h6, h7, h8]))
    rw [V_cond]
    simp (disch := omega) only [push_cast, Nat.reduceEqDiff, h3, h6, h7, h8]
    refine condX_d (fun hi0 => ?_) (fun hi0 => ?_)
    · have hsep : sepT i = [44, 32] := by unfold sepT; rw [if_neg (by omega)]
      rw [hsep] at hle htake
      simp only [List.length_cons, List.length_nil] at hle
      simp (disch := omega) only [push_cast, Nat.reduceEqDiff, h3, h6, h7, h8]
      refine Eq.mpr (bin_str_add _ _ _ _ ?_) ?_
      · simp only [List.length_append, List.length_cons, List.length_nil]; omega
      simp (disch := omega) only [push_cast, Nat.reduceEqDiff, h3, h6, h7, h8]
      refine loadX_agg Shp.eq mem0 rfl rfl ?_
      simp (disch := omega) only [push_cast, Nat.reduceEqDiff, h3, h6, h7, h8]
      refine callV en_65 (callX_is (fun w' hw' => fieldR_walk n hT w' lo f fa fc (Nat.le_trans hlo hw'.size) (x6.sy hlo hw' (fun p hp => Nat.le_trans hlo (hL5 p hp))) x3 x5 hef hszf (by omega)) ?_)
      simp (disch := omega) only [push_cast, Nat.reduceEqDiff, h3, h6, h7, h8]
      refine Eq.mpr (bin_str_add _ _ _ _ ?_) ?_
      · simp only [List.length_append, List.length_cons, List.length_nil]; omega
      simp (disch := omega) only [push_cast, Nat.reduceEqDiff, h3, h6, h7, h8]
      exact ⟨i + 1, [], fun w hw => hw.end hL5, ⟨rfl, rfl, rfl, by omega, by simp only [upd]; exact congrArg str (by rw [htake]; simp only [List.append_assoc]), h6, h7, by simp only [upd]; rfl⟩, by omega⟩
    · have hsep : sepT i = [] := by unfold sepT; rw [if_pos (by omega)]
      rw [hsep] at hle htake
      simp only [List.length_nil] at hle
      simp (disch := omega) only [push_cast, Nat.reduceEqDiff, h3, h6, h7, h8]
      refine loadX_agg Shp.eq mem0 rfl rfl ?_
      simp (disch := omega) only [push_cast, Nat.reduceEqDiff, h3, h6, h7, h8]
      refine callV en_65 (callX_is (fun w' hw' => fieldR_walk n hT w' lo f fa fc (Nat.le_trans hlo hw'.size) (x6.sy hlo hw' (fun p hp => Nat.le_trans hlo (hL5 p hp))) x3 x5 hef hszf (by omega)) ?_)
      simp (disch := omega) only [push_cast, Nat.reduceEqDiff, h3, h6, h7, h8]
      exact ⟨i + 1, [], fun w hw => hw.end hL5, ⟨rfl, rfl, rfl, by omega, by simp only [upd]; exact congrArg str (by rw [htake]; simp only [List.nil_append]), h6, h7, by simp only [upd]; rfl⟩, by omega⟩
  · obtain rfl : i = l.length := by omega
    simp (disch := omega) only [push_cast, Nat.reduceEqDiff, h3, h6, h7, h8]
    exact finIs (by simp) (by rw [List.take_length])
theorem textsR_ok : ∀ n, FieldsR n ∧ TypeR n
  | 0 => ⟨fun w lo l a c _ _ _ _ _ h => by omega, fun w lo f a c _ _ _ _ _ h => by omega⟩
  | n + 1 => ⟨fieldsR_step n (textsR_ok n).2, typeR_step n (textsR_ok n).1⟩
end Go.Proofs.YthdejilihaombaaDoor
