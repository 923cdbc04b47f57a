/- YtilejcofleeeiaaGreatDoor: fields as cells: what is copied from list to list. -/
import Derived.Test.YtilejcofleeeiaaGreatDoorW223
import Derived.Test.YtilejcofleeeiaaGreatDoorW219
namespace Go.Proofs.YtilejcofleeeiaaGreatDoor
open Go Go.K
set_option maxRecDepth 100000
set_option linter.unusedVariables false
set_option linter.unusedSimpArgs false
set_option maxHeartbeats 4000000
theorem and15b {P : Program} {K : Value → Prop} (t : TypeId) (x y : Operand) (c : UInt8) : PureX P (binV .and t x y (.int .u8 (c.toNat : Int)) (.int .u8 15)) (tag K) = K (.int .u8 ((c.toNat % 16 : Nat) : Int)) := by
  have key : ∀ c : Fin 256, bits .and .u8 (c.val : Int) 15 = ((c.val % 16 : Nat) : Int) := by decide +kernel
  have e := key ⟨c.toNat, c.toNat_lt⟩
  simp only at e
  rw [← e]
  exact px (fun w => rfl) K
theorem shr4c {P : Program} {K : Value → Prop} (t : TypeId) (x y : Operand) (c : UInt8) : PureX P (binV .shr t x y (.int .u8 (c.toNat : Int)) (.int .u64 4)) (tag K) = K (.int .u8 ((c.toNat / 16 : Nat) : Int)) := by
  rw [shr4b]; rfl
theorem escaped_walk (w : World) (c : UInt8) : Calls Tryz.prog 88 #[.int .u8 c.toNat] w (Rets w (Is (str (escP c)))) := by
  refine enterT (args := [.int .u8 c.toNat]) Tryz.func88 rfl Tryz.ntmps88 (congrArg Array.toList Tryz.results88) (by kernel_rfl) (by simp) (Sy.refl w) ?_
  have hc := c.toNat_lt
  simp (disch := omega) only [push_cast, Nat.reduceEqDiff]
  rw [V_block]
  simp (disch := omega) only [push_cast, Nat.reduceEqDiff]
  repeat' (first | ((first | refine guardX_t rfl (fun h => ?_) (fun h => ?_) | refine guardX_f rfl (fun h => ?_) (fun h => ?_) | refine condX_d (fun h => ?_) (fun h => ?_) | (refine guardX_bt rfl (fun h => ?_) (fun h => ?_) <;> (try subst h)) | (refine guardX_bf rfl (fun h => ?_) (fun h => ?_) <;> (try subst h)) | (refine condX_b (fun h => ?_) (fun h => ?_) <;> (try subst h)) | refine ldOne Shp.eq (by (first | exact mem0 | exact mem1 | exact mem2 | exact mem3 | exact mem4 | exact mem5)) rfl ?_ | refine loadX_agg Shp.eq (by (first | exact mem0 | exact mem1 | exact mem2 | exact mem3 | exact mem4 | exact mem5)) rfl rfl ?_ | refine newI (fun b hb hn => ?_) | refine storeX 0 rfl Siz.eq rfl rfl (by simp [Value.oneCell']) (by simp) ?_ | refine storeX 1 rfl Siz.eq rfl rfl (by simp [Value.oneCell']) (by simp) ?_ | refine storeX 2 rfl Siz.eq rfl rfl (by simp [Value.oneCell']) (by simp) ?_ | refine storeX 3 rfl Siz.eq rfl rfl (by simp [Value.oneCell']) (by simp) ?_ | refine storeX 4 rfl Siz.eq rfl rfl (by simp [Value.oneCell']) (by simp) ?_ | refine storeX 5 rfl Siz.eq rfl rfl (by simp [Value.oneCell']) (by simp) ?_ | refine storeX 6 rfl Siz.eq rfl rfl (by simp [Value.oneCell']) (by simp) ?_) <;> simp (disch := omega) only [push_cast, Nat.reduceEqDiff]) | (first | rw [V_cond] | rw [V_block]) <;> (try simp (disch := omega) only [push_cast, Nat.reduceEqDiff]))
  all_goals first
    | (refine finIs (by simp) ?_
       unfold escP
       (repeat (first | rw [if_pos (by omega)] | rw [if_neg (by omega)]))
       done)
    | (refine drawQT (by kernel_rfl) (by kernel_rfl) mixed (by kernel_rfl) ?_
       simp (disch := omega) only [push_cast, Nat.reduceEqDiff, shr4c]
       refine slHex (q := c.toNat / 16) (by omega) (by omega) (by omega) ?_
       simp (disch := omega) only [push_cast, Nat.reduceEqDiff]
       refine addS (l := [92, 120]) (by simp only [List.length_cons, List.length_nil, List.length_append]; omega) ?_
       simp (disch := omega) only [push_cast, Nat.reduceEqDiff, and15b]
       refine slHex (q := c.toNat % 16) (by omega) (by omega) (by omega) ?_
       simp (disch := omega) only [push_cast, Nat.reduceEqDiff]
       refine addS (by simp only [List.length_cons, List.length_nil, List.length_append]; omega) ?_
       simp (disch := omega) only [push_cast, Nat.reduceEqDiff]
       refine finIs (by simp) ?_
       unfold escP
       (repeat (first | rw [if_pos (by omega)] | rw [if_neg (by omega)])))
structure TxB (w0 : World) (pb : Nat) (bs pre s : List UInt8) (F : UInt8 → List UInt8) (M : Own) (k1 k2 : Nat) (i : Nat) (wb : World) (e : Env) (ds : List Deferred) (L : Own) : Prop where
  hw : wb = w0
  hds : ds = []
  o : BlO w0 58 pb (bs ++ (pre ++ (s.take i).flatMap F)) L M
  hi : i ≤ s.length
  h0 : e 0 = selfP pb
  h1 : e 1 = str s
  hk1 : e k1 = i64 s.length
  hk2 : e k2 = i64 i
/-- What a printer's function leaves. -/
def PrL (wb : World) (pb : Nat) (bs : List UInt8) (M : Own) (e : Ending) (w' : World) : Prop := ∃ v L', e = .returned v ∧ Sy wb L' w' ∧ (v = .tuple #[] ∧ BlO wb 58 pb bs L' M)
theorem printText_walk (wb w : World) (pb : Nat) (bs s : List UInt8) (L M : Own) (hB : BlO wb 58 pb bs L M) (hM : ∀ p ∈ M, wb.heap.size ≤ p.1) (hlen : bs.length + (textT s).length ≤ 1000000000) (hw : Sy wb L w) :
    Calls Tryz.prog 50 #[selfP pb, str s] w (PrL wb pb (bs ++ textT s) M) := by
  refine enterB (args := [selfP pb, str s]) Tryz.func50 rfl Tryz.ntmps50 (congrArg Array.toList Tryz.results50) (by kernel_rfl) (by simp) hw ?_
  have htl : (textT s).length = (s.flatMap charT).length + 2 := by unfold textT; simp
  have hsl : s.length ≤ (s.flatMap charT).length := by
    clear hlen htl
    induction s with
    | nil => simp
    | cons c l ih => rw [List.flatMap_cons, List.length_append, List.length_cons]; have := (char_len c).1; omega
  simp (disch := omega) only [push_cast, Nat.reduceEqDiff]
  refine callV en_52 (callX_own (fun w' hw' => writeByte_walk wb w' _ (.inr rfl) pb bs 34 L M hB (by omega) hw') (fun v L1 ⟨hv, hB1⟩ => ?_))
  subst hv
  simp (disch := omega) only [push_cast, Nat.reduceEqDiff]
  refine forget (fun e => e 0 = selfP pb ∧ e 1 = str s ∧ e 11 = i64 s.length ∧ e 12 = i64 0) ⟨rfl, rfl, rfl, rfl⟩ ?_
  rintro e ⟨h0, h1, h11, h12⟩
  rw [V_block]
  simp (disch := omega) only [push_cast, Nat.reduceEqDiff, h0, h1, h11, h12]
  refine loopW (G := Nat) (TxB wb pb bs [34] s charT M 11 12) (fun i => s.length - i) 0 _ (fun w hw => hw) (by kernel_rfl) ⟨rfl, rfl, by simpa using hB1, Nat.zero_le _, h0, h1, h11, h12⟩ ?_
  clear h0 h1 h11 h12 e hB1
  rintro i wb e ds L2 ⟨rfl, rfl, hB2, hi, h0, h1, h11, h12⟩
  have hpre : ((s.take i).flatMap charT).length ≤ (s.flatMap charT).length := by
    conv => rhs; rw [← List.take_append_drop i s, List.flatMap_append, List.length_append]
    exact Nat.le_add_right _ _
  simp (disch := omega) only [push_cast, Nat.reduceEqDiff, h11, h12]
  rw [V_cond]
  simp (disch := omega) only [push_cast, Nat.reduceEqDiff, h11, h12]
  refine condX_d (fun hlt => ?_) (fun hge => ?_)
  rotate_left
  · obtain rfl : i = s.length := by omega
    simp (disch := omega) only [push_cast, Nat.reduceEqDiff, h0]
    refine callV en_52 (callX_own (fun w' hw' => writeByte_walk wb w' _ (.inr rfl) pb _ 34 L2 M hB2 (by simp only [List.length_append, List.length_cons, List.length_nil, List.take_length]; omega) hw') (fun v L3 ⟨hv, hB3⟩ => ?_))
    subst hv
    simp (disch := omega) only [push_cast, Nat.reduceEqDiff]
    refine fun w' hw' => ⟨_, L3, rfl, hw', rfl, ?_⟩
    rw [List.take_length] at hB3
    simpa [textT] using hB3
  obtain ⟨c, hc⟩ : ∃ c, s[i]? = some c := ⟨_, List.getElem?_eq_getElem (by omega)⟩
  have hget : s.getD i 0 = c := by rw [List.getD_eq_getElem?_getD, hc]; rfl
  have hnext : (s.take (i + 1)).flatMap charT = (s.take i).flatMap charT ++ charT c := by rw [List.take_add_one, hc, List.flatMap_append]; simp
  have hcl : (charT c).length ≤ 4 := (char_len c).2
  simp (disch := omega) only [push_cast, Nat.reduceEqDiff, h1, h12]
  rw [V_block]
  simp (disch := omega) only [push_cast, Nat.reduceEqDiff, h1, h12]
  rw [hget]
  refine callV en_88 (callX_is (fun w' _ => escaped_walk w' c) ?_)
  simp (disch := omega) only [push_cast, Nat.reduceEqDiff, h0, h1]
  rw [V_cond]
  simp (disch := omega) only [push_cast, Nat.reduceEqDiff, h0, h1]
  refine condX_d (fun hne => ?_) (fun he => ?_)
  · simp (disch := omega) only [push_cast, Nat.reduceEqDiff, h0]
    refine callV en_46 (callX_own (fun w' hw' => write_walk wb w' _ (.inr rfl) pb _ (escP c) L2 M hB2 hne (by have := esc_len c; simp only [List.length_append, List.length_cons, List.length_nil]; omega) hw') (fun v L3 ⟨hv, hB3⟩ => ?_))
    subst hv
    simp (disch := omega) only [push_cast, Nat.reduceEqDiff, h12]
    refine ⟨i + 1, _, fun w hw => hw, ⟨rfl, rfl, ?_, by omega, h0, h1, h11, ?_⟩, by omega⟩
    · rw [hnext, show charT c = escP c by unfold charT; rw [if_neg hne]]; simpa using hB3
    · simp only [upd]; first | rfl | exact congrArg i64 (by omega)
  · have he : escP c = [] := Decidable.not_not.1 he
    refine freeT [0, 1, 2, 3, 4, 5] [6] [] (by kernel_rfl) mixed (by kernel_rfl) (Stab.of (List.nil_sublist _) (hB2.new hM)) ?_
    simp (disch := omega) only [push_cast, Nat.reduceEqDiff, h0, h1]
    rw [hget]
    refine callV en_52 (callX_own (fun w' hw' => writeByte_walk wb w' _ (.inr rfl) pb _ c L2 M hB2 (by simp only [List.length_append, List.length_cons, List.length_nil]; omega) hw') (fun v L3 ⟨hv, hB3⟩ => ?_))
    subst hv
    refine ⟨rfl, Stab.of (List.nil_sublist _) (hB3.new hM), ?_⟩
    simp (disch := omega) only [push_cast, Nat.reduceEqDiff, h12]
    refine ⟨i + 1, _, fun w hw => hw, ⟨rfl, rfl, ?_, by omega, h0, h1, h11, ?_⟩, by omega⟩
    · rw [hnext, char_plain he]; simpa using hB3
    · simp only [upd]; first | rfl | exact congrArg i64 (by omega)
theorem idxHex {K : Value → Prop} {kk : IntKind} {q : Nat} {i : Int} (hi : i = q) (hq : q < 16) (hk : K (.int .u8 ((hexC q).toNat : Int))) : PureX Tryz.prog (Instr.index 9 (str hexL) (.int kk i)) (tag K) := by
  subst hi
  refine Eq.mpr (is_9 hexL kk _ (by omega) (show (q : Int) < (16 : Nat) by omega)) ?_
  rw [Int.toNat_natCast, List.getD_eq_getElem?_getD, hexL_get hq]
  exact hk
theorem printBytes_walk (wb w : World) (pb : Nat) (bs s : List UInt8) (L M : Own) (hB : BlO wb 58 pb bs L M) (hM : ∀ p ∈ M, wb.heap.size ≤ p.1) (hlen : bs.length + (bytesT s).length ≤ 1000000000) (hw : Sy wb L w) :
    Calls Tryz.prog 51 #[selfP pb, str s] w (PrL wb pb (bs ++ bytesT s) M) := by
  refine enterB (args := [selfP pb, str s]) Tryz.func51 rfl Tryz.ntmps51 (congrArg Array.toList Tryz.results51) (by kernel_rfl) (by simp) hw ?_
  have htl : (bytesT s).length = (s.flatMap byteT).length + 3 := by unfold bytesT; simp
  have hsl : (s.flatMap byteT).length = 2 * s.length := by
    clear hlen htl
    induction s with
    | nil => simp
    | cons c l ih => rw [List.flatMap_cons, List.length_append, List.length_cons, ih]; show 2 + _ = _; omega
  simp (disch := omega) only [push_cast, Nat.reduceEqDiff]
  refine callV en_46 (callX_own (fun w' hw' => write_walk wb w' _ (.inr rfl) pb bs [120, 34] L M hB (by simp) (by simp only [List.length_cons, List.length_nil]; omega) hw') (fun v L1 ⟨hv, hB1⟩ => ?_))
  subst hv
  simp (disch := omega) only [push_cast, Nat.reduceEqDiff]
  refine forget (fun e => e 0 = selfP pb ∧ e 1 = str s ∧ e 10 = i64 s.length ∧ e 11 = i64 0) ⟨rfl, rfl, rfl, rfl⟩ ?_
  rintro e ⟨h0, h1, h11, h12⟩
  rw [V_block]
  simp (disch := omega) only [push_cast, Nat.reduceEqDiff, h0, h1, h11, h12]
  refine loopW (G := Nat) (TxB wb pb bs [120, 34] s byteT M 10 11) (fun i => s.length - i) 0 _ (fun w hw => hw) (by kernel_rfl) ⟨rfl, rfl, by simpa using hB1, Nat.zero_le _, h0, h1, h11, h12⟩ ?_
  clear h0 h1 h11 h12 e hB1
  rintro i wb e ds L2 ⟨rfl, rfl, hB2, hi, h0, h1, h11, h12⟩
  have hpre : ((s.take i).flatMap byteT).length ≤ (s.flatMap byteT).length := by
    conv => rhs; rw [← List.take_append_drop i s, List.flatMap_append, List.length_append]
    exact Nat.le_add_right _ _
  simp (disch := omega) only [push_cast, Nat.reduceEqDiff, h11, h12]
  rw [V_cond]
  simp (disch := omega) only [push_cast, Nat.reduceEqDiff, h11, h12]
  refine condX_d (fun hlt => ?_) (fun hge => ?_)
  rotate_left
  · obtain rfl : i = s.length := by omega
    simp (disch := omega) only [push_cast, Nat.reduceEqDiff, h0]
    refine callV en_52 (callX_own (fun w' hw' => writeByte_walk wb w' _ (.inr rfl) pb _ 34 L2 M hB2 (by simp only [List.length_append, List.length_cons, List.length_nil, List.take_length]; omega) hw') (fun v L3 ⟨hv, hB3⟩ => ?_))
    subst hv
    simp (disch := omega) only [push_cast, Nat.reduceEqDiff]
    refine fun w' hw' => ⟨_, L3, rfl, hw', rfl, ?_⟩
    rw [List.take_length] at hB3
    simpa [bytesT] using hB3
  obtain ⟨c, hc⟩ : ∃ c, s[i]? = some c := ⟨_, List.getElem?_eq_getElem (by omega)⟩
  have hget : s.getD i 0 = c := by rw [List.getD_eq_getElem?_getD, hc]; rfl
  have hnext : (s.take (i + 1)).flatMap byteT = (s.take i).flatMap byteT ++ byteT c := by rw [List.take_add_one, hc, List.flatMap_append]; simp
  have hcl := c.toNat_lt
  simp (disch := omega) only [push_cast, Nat.reduceEqDiff, h1, h12]
  rw [V_block]
  simp (disch := omega) only [push_cast, Nat.reduceEqDiff, h1, h12]
  refine freeT [0, 1, 2, 3, 4, 5, 6, 7] [8] [] (by kernel_rfl) mixed (by kernel_rfl) (Stab.of (List.nil_sublist _) (hB2.new hM)) ?_
  simp (disch := omega) only [push_cast, Nat.reduceEqDiff, h0, h1, shr4c]
  rw [hget]
  try simp (disch := omega) only [push_cast, Nat.reduceEqDiff, h0, h1, shr4c]
  refine idxHex (q := c.toNat / 16) (by omega) (by omega) ?_
  simp (disch := omega) only [push_cast, Nat.reduceEqDiff, h0, h1]
  refine callV en_52 (callX_own (fun w' hw' => writeByte_walk wb w' _ (.inr rfl) pb _ (hexC (c.toNat / 16)) L2 M hB2 (by simp only [List.length_append, List.length_cons, List.length_nil]; omega) hw') (fun v L3 ⟨hv, hB3⟩ => ?_))
  subst hv
  refine ⟨rfl, Stab.of (List.nil_sublist _) (hB3.new hM), ?_⟩
  simp (disch := omega) only [push_cast, Nat.reduceEqDiff]
  refine freeT [0, 1, 2, 3, 4, 5, 6, 7] [8] [] (by kernel_rfl) mixed (by kernel_rfl) (Stab.of (List.nil_sublist _) (hB3.new hM)) ?_
  simp (disch := omega) only [push_cast, Nat.reduceEqDiff, h0, h1, and15b]
  rw [hget]
  try simp (disch := omega) only [push_cast, Nat.reduceEqDiff, h0, h1, and15b]
  refine idxHex (q := c.toNat % 16) (by omega) (by omega) ?_
  simp (disch := omega) only [push_cast, Nat.reduceEqDiff, h0, h1]
  refine callV en_52 (callX_own (fun w' hw' => writeByte_walk wb w' _ (.inr rfl) pb _ (hexC (c.toNat % 16)) L3 M hB3 (by simp only [List.length_append, List.length_cons, List.length_nil]; omega) hw') (fun v L4 ⟨hv, hB4⟩ => ?_))
  subst hv
  refine ⟨rfl, Stab.of (List.nil_sublist _) (hB4.new hM), ?_⟩
  simp (disch := omega) only [push_cast, Nat.reduceEqDiff, h12]
  refine ⟨i + 1, _, fun w hw => hw, ⟨rfl, rfl, ?_, by omega, h0, h1, h11, ?_⟩, by omega⟩
  · rw [hnext]; simpa [byteT] using hB4
  · simp only [upd]; first | rfl | exact congrArg i64 (by omega)
end Go.Proofs.YtilejcofleeeiaaGreatDoor
namespace Go.Proofs.YtilejcofleeeiaaGreatDoor
open Go Go.K
set_option maxRecDepth 100000
set_option linter.unusedVariables false
set_option linter.unusedSimpArgs false
set_option maxHeartbeats 4000000
/-- The two values that stand behind each list. -/
abbrev marksC : List Value := [.bool false, i64 (-7), str [], .slice none 0 0, .bool false, i64 (-8), str [], .slice none 0 0]
mutual
/-- The lists of a value lie in these blocks alone, each in its own one. -/
def OwV : Vl → Own → Option Addr → Nat → Prop
  | .mk _ num tx ls, K, a, c => tx.length ≤ 9223372036854775807 ∧ (-9223372036854775808 ≤ num ∧ num < 9223372036854775808) ∧ ∃ (b : Nat) (cs rest : List Value) (K' : Own), a = some ⟨b, 0, none⟩ ∧ K = (b, Obj.cells (cs ++ (marksC ++ rest)).toArray 29 (0, 0)) :: K' ∧ KidV ls K' cs ∧ ls.length + 2 ≤ c ∧ c ≤ 9223372036854775807 ∧ (cs ++ (marksC ++ rest)).length = c * 4
def KidV : List Vl → Own → List Value → Prop
  | [], K, cs => K = [] ∧ cs = []
  | v :: l, K, cs => ∃ (K1 K2 : Own) (a : Option Addr) (c : Nat) (cs' : List Value), K = K1 ++ K2 ∧ cs = v.cells a c ++ cs' ∧ OwV v K1 a c ∧ KidV l K2 cs'
end
theorem OwV_iff (v : Vl) (K : Own) (a : Option Addr) (c : Nat) : OwV v K a c ↔ v.tx.length ≤ 9223372036854775807 ∧ (-9223372036854775808 ≤ v.num ∧ v.num < 9223372036854775808) ∧ ∃ (b : Nat) (cs rest : List Value) (K' : Own), a = some ⟨b, 0, none⟩ ∧ K = (b, Obj.cells (cs ++ (marksC ++ rest)).toArray 29 (0, 0)) :: K' ∧ KidV v.ls K' cs ∧ v.ls.length + 2 ≤ c ∧ c ≤ 9223372036854775807 ∧ (cs ++ (marksC ++ rest)).length = c * 4 := by
  cases v; rw [OwV]; rfl
theorem KidV.len : ∀ {ls : List Vl} {K : Own} {cs : List Value}, KidV ls K cs → cs.length = ls.length * 4
  | [], K, cs, h => by rw [KidV] at h; rw [h.2]; rfl
  | v :: l, K, cs, h => by
    rw [KidV] at h
    obtain ⟨K1, K2, a, c, cs', _, rfl, _, h2⟩ := h
    have := KidV.len h2
    simp only [Vl.cells, List.length_append, List.length_cons, List.length_nil, this]
    omega
theorem At.split {w : World} {b off : Nat} {x y : List Value} (h : At w b off (x ++ y)) : At w b off x ∧ At w b (off + x.length) y := by
  refine ⟨?_, h.sub x.length y (by simp)⟩
  have := h.sub 0 x (by simp)
  simpa using this
mutual
theorem OwV.at_ {wb w : World} {L : Own} (hw : Sy wb L w) : ∀ (v : Vl) {K : Own} {a : Option Addr} {c : Nat}, OwV v K a c → (∀ p ∈ K, p ∈ L) → VAt w w.heap.size v a c
  | .mk nu num tx ls, K, a, c, h, hK => by
    rw [OwV] at h
    obtain ⟨h1, h2, b, cs, rest, K', rfl, rfl, h3, h4, h5, h6⟩ := h
    have hm : (b, Obj.cells (cs ++ (marksC ++ rest)).toArray 29 (0, 0)) ∈ L := hK _ (.head _)
    have hat : At w b 0 cs := At.of_own hw hm (by simp)
    refine ⟨KidV.rd hw ls h3 (fun p hp => hK p (.tail _ hp)) (hw.lt hm) hat, ?_, h5, h1, h2⟩
    show ls.length ≤ c
    omega
theorem KidV.rd {wb w : World} {L : Own} (hw : Sy wb L w) : ∀ (ls : List Vl) {K : Own} {cs : List Value} {b off : Nat}, KidV ls K cs → (∀ p ∈ K, p ∈ L) → b < w.heap.size → At w b off cs → RdV w w.heap.size (some ⟨b, off, none⟩) ls
  | [], K, cs, b, off, h, hK, hb, hat => .nil _
  | v :: l, K, cs, b, off, h, hK, hb, hat => by
    rw [KidV] at h
    obtain ⟨K1, K2, a, c, cs', rfl, rfl, h1, h2⟩ := h
    have h3 := OwV.at_ hw v h1 (fun p hp => hK p (List.mem_append_left _ hp))
    obtain ⟨q1, q2⟩ := At.split hat
    exact .cons hb h3.hc h3.hc2 h3.ht h3.hn q1 h3.hr (KidV.rd hw l h2 (fun p hp => hK p (List.mem_append_right _ hp)) hb q2)
end
theorem KidV.one : ∀ {ls : List Vl} {K : Own} {cs : List Value}, KidV ls K cs → ∀ u ∈ cs, u.oneCell' = true
  | [], K, cs, h => by rw [KidV] at h; rw [h.2]; intro u hu; cases hu
  | v :: l, K, cs, h => by
    rw [KidV] at h
    obtain ⟨K1, K2, a, c, cs', _, rfl, _, h2⟩ := h
    intro u hu
    rcases List.mem_append.1 hu with hu | hu
    · simp only [Vl.cells, List.mem_cons, List.mem_nil_iff, or_false] at hu
      rcases hu with rfl | rfl | rfl | rfl <;> rfl
    · exact KidV.one h2 u hu
theorem KidV.append {m : List Vl} {K2 : Own} {ds : List Value} (hd : KidV m K2 ds) : ∀ {l : List Vl} {K1 : Own} {cs : List Value}, KidV l K1 cs → KidV (l ++ m) (K1 ++ K2) (cs ++ ds)
  | [], K1, cs, h => by rw [KidV] at h; obtain ⟨rfl, rfl⟩ := h; exact hd
  | v :: l, K1, cs, h => by
    rw [KidV] at h
    obtain ⟨A, B, a, c, cs', rfl, rfl, h1, h2⟩ := h
    rw [List.cons_append, KidV]
    exact ⟨A, B ++ K2, a, c, cs' ++ ds, by rw [List.append_assoc], by rw [List.append_assoc], h1, KidV.append hd h2⟩
theorem KidV.single {v : Vl} {K : Own} {a : Option Addr} {c : Nat} (h : OwV v K a c) : KidV [v] K (v.cells a c) := by
  rw [KidV]
  exact ⟨K, [], a, c, [], by simp, by simp, h, by rw [KidV]; exact ⟨rfl, rfl⟩⟩
end Go.Proofs.YtilejcofleeeiaaGreatDoor
namespace Go.Proofs.YtilejcofleeeiaaGreatDoor
open Go Go.K
set_option linter.unusedVariables false
set_option linter.unusedSimpArgs false
/-- The cells of a list of fields, whose children lie in w below lo. -/
def FldsC (w : World) (lo : Nat) : List Fld → List Value → Prop
  | [], cs => cs = []
  | f :: l, cs => ∃ a c r, cs = f.cells a c ++ r ∧ f.sub.length ≤ c ∧ f.nm.length ≤ 9223372036854775807 ∧ c ≤ 9223372036854775807 ∧ Rd w lo a f.sub ∧ FldsC w lo l r
theorem cells7 (f : Fld) (a : Option Addr) (c : Nat) : (f.cells a c).length = 7 := rfl
theorem FldsC.len {w : World} {lo : Nat} : ∀ {l : List Fld} {cs : List Value}, FldsC w lo l cs → cs.length = l.length * 7
  | [], _, h => by cases h; rfl
  | f :: l, cs, ⟨a, c, r, h1, _, _, _, _, h2⟩ => by
    have := FldsC.len h2
    rw [h1, List.length_append, cells7, this, List.length_cons]; omega
theorem FldsC.one {w : World} {lo : Nat} : ∀ {l : List Fld} {cs : List Value}, FldsC w lo l cs → ∀ u ∈ cs, u.oneCell' = true
  | [], _, h => by cases h; intro u hu; cases hu
  | f :: l, cs, ⟨a, c, r, h1, _, _, _, _, h2⟩ => by
    intro u hu
    rw [h1] at hu
    rcases List.mem_append.1 hu with hu | hu
    · simp only [Fld.cells, List.mem_cons, List.mem_nil_iff, or_false] at hu
      rcases hu with rfl | rfl | rfl | rfl | rfl | rfl | rfl <;> rfl
    · exact FldsC.one h2 u hu
theorem FldsC.mono {w w' : World} {lo : Nat} (hw : ∀ k, k < lo → w'.heap[k]? = w.heap[k]?) : ∀ {l : List Fld} {cs : List Value}, FldsC w lo l cs → FldsC w' lo l cs
  | [], _, h => h
  | f :: l, cs, ⟨a, c, r, h1, h2, h3, h4, h5, h6⟩ => ⟨a, c, r, h1, h2, h3, h4, h5.mono hw, h6.mono hw⟩
theorem FldsC.sy {w w' : World} {lo : Nat} {l : List Fld} {cs : List Value} {M : Own} (h : FldsC w lo l cs) (hlo : lo ≤ w.heap.size) (hs : Sy w M w') (hM : ∀ p ∈ M, lo ≤ p.1) : FldsC w' lo l cs :=
  h.mono fun k hk => hs.rest k (Nat.lt_of_lt_of_le hk hlo) (fun hm => by obtain ⟨p, hp, e⟩ := List.mem_map.1 hm; have := hM p hp; omega)
theorem FldsC.append {w : World} {lo : Nat} {m : List Fld} {ds : List Value} (hd : FldsC w lo m ds) : ∀ {l : List Fld} {cs : List Value}, FldsC w lo l cs → FldsC w lo (l ++ m) (cs ++ ds)
  | [], _, h => by cases h; exact hd
  | f :: l, cs, ⟨a, c, r, h1, h2, h3, h4, h5, h6⟩ => ⟨a, c, r ++ ds, by rw [h1, List.append_assoc], h2, h3, h4, h5, FldsC.append hd h6⟩
theorem At.app {w : World} {b off : Nat} {x y : List Value} (h1 : At w b off x) (h2 : At w b (off + x.length) y) : At w b off (x ++ y) := by
  obtain ⟨cs, ty, fr, h3, h4⟩ := h1
  obtain ⟨cs', ty', fr', h5, h6⟩ := h2
  rw [h3] at h5
  cases h5
  refine ⟨cs, ty, fr, h3, ?_⟩
  rw [List.length_append, List.take_add, h4, List.drop_drop, h6]
theorem At.left {w : World} {b off : Nat} {x y : List Value} (h : At w b off (x ++ y)) : At w b off x := by
  have := h.sub 0 x (by simp)
  simpa using this
theorem At.right {w : World} {b off : Nat} {x y : List Value} (h : At w b off (x ++ y)) : At w b (off + x.length) y := h.sub x.length y (by simp)
theorem Rd.toC {w : World} {lo : Nat} : ∀ {l : List Fld} {b off : Nat}, l ≠ [] → Rd w lo (some ⟨b, off, none⟩) l → ∃ cs, FldsC w lo l cs ∧ At w b off cs
  | [], b, off, h0, _ => absurd rfl h0
  | [f], b, off, _, h => by
    cases h with
    | cons hb hc hn hl hat hs hr => exact ⟨_, ⟨_, _, [], (by rw [List.append_nil]), hc, hn, hl, hs, rfl⟩, hat⟩
  | f :: g :: l, b, off, _, h => by
    cases h with
    | cons hb hc hn hl hat hs hr =>
      obtain ⟨cs, h1, h2⟩ := Rd.toC (by simp) hr
      exact ⟨_, ⟨_, _, cs, rfl, hc, hn, hl, hs, h1⟩, At.app hat (by rw [cells7]; exact h2)⟩
theorem FldsC.toRd {w : World} {lo lo' : Nat} (hle : lo ≤ lo') : ∀ {l : List Fld} {cs : List Value} {b off : Nat}, b < lo' → FldsC w lo l cs → At w b off cs → Rd w lo' (some ⟨b, off, none⟩) l
  | [], _, _, _, _, _, _ => .nil _
  | f :: l, cs, b, off, hb, ⟨a, c, r, h1, h2, h3, h4, h5, h6⟩, hat => by
    subst h1
    exact .cons hb h2 h3 h4 (At.left hat) (h5.weaken hle) (FldsC.toRd hle hb h6 (by have := At.right hat; rw [cells7] at this; exact this))
/-- A part of a list that lies. -/
theorem Rd.drop {w : World} {lo : Nat} : ∀ {l : List Fld} {b off : Nat} (i : Nat), Rd w lo (some ⟨b, off, none⟩) l → Rd w lo (some ⟨b, off + i * 7, none⟩) (l.drop i)
  | l, b, off, 0, h => by simpa using h
  | [], b, off, i + 1, _ => by simpa using Rd.nil _
  | f :: l, b, off, i + 1, h => by
    cases h with
    | cons hb hc hn hl hat hs hr =>
      have := Rd.drop i hr
      rw [show off + (i + 1) * 7 = off + 7 + i * 7 by omega]
      simpa using this
/-- The cells of a list that lies can be read, wherever one is. -/
theorem canRead_rd {wb : World} {L : Own} {lo : Nat} {l : List Fld} {b off : Nat} (h : Rd wb lo (some ⟨b, off, none⟩) l) (hlo : lo ≤ wb.heap.size) (hL : ∀ p ∈ L, wb.heap.size ≤ p.1) : ∃ cs, FldsC wb lo l cs ∧ CanRead wb L ⟨b, off, none⟩ cs := by
  by_cases h0 : l = []
  · subst h0
    exact ⟨[], rfl, fun w hw j v hj => by simp at hj⟩
  · obtain ⟨cs, h1, h2⟩ := Rd.toC h0 h
    exact ⟨cs, h1, CanRead.of_at fun w hw => h2.of_block (hw.rest b h2.lt (out_of fun p hp => Nat.lt_of_lt_of_le h2.lt (hL p hp)))⟩
/-- A row of fields in one's own block is a list of fields. -/
theorem RowO.rd {wb : World} {ty : TypeId} {L M : Own} {a : Option Addr} {n c : Nat} {xs : List Value} {l : List Fld} {lo : Nat} (hro : RowO wb ty 7 L M (.slice a n c) l.length xs) (hx : FldsC wb lo l xs) (hlo : lo ≤ wb.heap.size) {L' : Own} {w' : World} (hw : Sy wb L' w') (hLL : ∀ p ∈ L, p ∈ L') (hL : ∀ p ∈ L', lo ≤ p.1) : Rd w' w'.heap.size a l := by
  obtain ⟨h0, ⟨h1, h2, h3⟩ | ⟨b, cap, cs, h1, h2, h3, h4, h5, h6, h7⟩⟩ := hro
  · rw [List.eq_nil_of_length_eq_zero h2]; exact .nil _
  · injection h1 with q1 q2 q3
    subst q1
    have hm : (b, Obj.cells cs.toArray ty (0, 0)) ∈ L' := hLL _ (by rw [h2]; exact .head _)
    exact FldsC.toRd (Nat.le_trans hlo hw.size) (hw.lt hm) (hx.sy hlo hw hL) (At.of_own hw hm (by rw [List.drop_zero, h0, h7]))
theorem RowO.frame {wb : World} {ty : TypeId} {sz n : Nat} {R M : Own} {v : Value} {xs : List Value} (h : RowO wb ty sz R [] v n xs) : RowO wb ty sz (R ++ M) M v n xs := by
  obtain ⟨h0, ⟨h1, h2, h3⟩ | ⟨b, cap, cs, h1, h2, h3⟩⟩ := h
  · exact ⟨h0, .inl ⟨h1, h2, by rw [h3]; rfl⟩⟩
  · exact ⟨h0, .inr ⟨b, cap, cs, h1, by rw [h2]; rfl, h3⟩⟩
theorem RowO.unframe {wb : World} {ty : TypeId} {sz n : Nat} {L M : Own} {v : Value} {xs : List Value} (h : RowO wb ty sz L M v n xs) : ∃ R, L = R ++ M ∧ RowO wb ty sz R [] v n xs := by
  obtain ⟨h0, ⟨h1, h2, h3⟩ | ⟨b, cap, cs, h1, h2, h3⟩⟩ := h
  · exact ⟨[], by rw [h3]; rfl, h0, .inl ⟨h1, h2, rfl⟩⟩
  · exact ⟨[_], by rw [h2]; rfl, h0, .inr ⟨b, cap, cs, h1, rfl, h3⟩⟩
theorem RowO.le {wb : World} {ty : TypeId} {sz n : Nat} {L M : Own} {a : Option Addr} {n' c : Nat} {xs : List Value} (h : RowO wb ty sz L M (.slice a n' c) n xs) : n' = n ∧ n ≤ c ∧ c ≤ 9223372036854775807 := by
  obtain ⟨h0, ⟨h1, h2, h3⟩ | ⟨b, cap, cs, h1, h2, h3, h4, h5, h6, h7⟩⟩ := h
  · cases h1; omega
  · cases h1; simp only [maxLen] at h5; omega
theorem storeX_weak {P : Program} {t : TypeId} {a v : Value} {wb : World} {L L' : Own} {K : Own → Prop} (hs : ∀ w, Sy wb L w → Sy wb L' w) (h : StoreX P t a v wb L' (tag K)) : StoreX P t a v wb L (tag K) := by
  obtain ⟨L2, h1, h2⟩ := h
  exact ⟨L2, fun w hw => h1 w (hs w hw), h2⟩
end Go.Proofs.YtilejcofleeeiaaGreatDoor
