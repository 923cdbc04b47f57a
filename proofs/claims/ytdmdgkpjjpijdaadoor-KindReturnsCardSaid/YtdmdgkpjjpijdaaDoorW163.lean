/- YtdmdgkpjjpijdaaDoor: walks, part 160: the library's functions that a reader calls: strings.IndexByte, strconv.Atoi, strconv.Itoa; a reader gives up. -/
import Derived.Test.YtdmdgkpjjpijdaaDoorW155
import Derived.Test.YtdmdgkpjjpijdaaDoorW161
import Derived.Lib.AppendIntMem
import Derived.Lib.SmallJoins
namespace Go.Proofs.YtdmdgkpjjpijdaaDoor
open Go Go.K
set_option maxRecDepth 100000
set_option linter.unusedVariables false
set_option linter.unusedSimpArgs false
set_option maxHeartbeats 4000000
theorem indexByte_walk (w : World) (l : List UInt8) (c : UInt8) : Calls Tryd.prog 38 #[str l, .int .u8 c.toNat] w (Rets w (Is (i64 (Lib.indexByte l c)))) := by
  have h := Any.strings_IndexByte laysIdx ⟨l.toArray⟩ (c.toNat : Int) w
  refine h.mono ?_
  rintro e w' ⟨rfl, rfl⟩
  refine ⟨_, rfl, Sy.refl _, ?_⟩
  show i64 (Lib.indexByte l (((c.toNat : Int).toNat).toUInt8)) = _
  rw [Int.toNat_natCast, show (c.toNat.toUInt8) = c from UInt8.ofNat_toNat]
/-- What the library's functions lean on: a table, two errors. -/
def LibAt (w : World) : Prop := Lib.TabIs Tryd.prog w "internal/strconv.uint64pow10" .u64 Lib.pow10Tab ∧ ∀ g : Nat, g = 3 ∨ g = 4 → ∃ ev, w.cell? ⟨g, 0, none⟩ = some ev ∧ (ev = .nilIface ∨ ∃ te pe, ev = .iface te pe)
theorem LibAt.mono {w w' : World} {L : Own} (h : LibAt w) (hs : Sy w L w') (hn : ∀ p ∈ L, w.heap.size ≤ p.1) : LibAt w' := by
  have hb := (hs.end hn).below
  refine ⟨Lib.tabBelow_of_tabIs h.1 w' hb, fun g hg => ?_⟩
  obtain ⟨ev, h1, h2⟩ := h.2 g hg
  refine ⟨ev, ?_, h2⟩
  have hlt : g < w.heap.size := by
    rcases Nat.lt_or_ge g w.heap.size with h3 | h3
    · exact h3
    · exfalso
      simp only [World.cell?, Array.getElem?_eq_none h3] at h1
      cases h1
  rw [← h1]
  simp only [World.cell?, hb.block g hlt]
theorem sy_grow (w : World) (k : Nat) (os : Array Obj) : Sy w [] (Go.Sort.grow (w.drewN k) os) := by
  refine ⟨rfl, rfl, rfl, ?_, by simp, by simp, fun j hj _ => ?_⟩
  · show w.heap.size ≤ (w.heap ++ os).size
    rw [Array.size_append]; omega
  · show (w.heap ++ os)[j]? = w.heap[j]?
    rw [Array.getElem?_append_left hj]
theorem itoa_walk (w : World) (hl : LibAt w) (n : Int) (h0 : 0 ≤ n) (h1 : n ≤ 9223372036854775807) : Calls Tryd.prog 68 #[i64 n] w (Rets w (Is (str (Lib.itoa n)))) := by
  refine (Any.strconv_Itoa laysItoa n (by omega) h1 w hl.1).mono ?_
  rintro e w' ⟨rfl, k, os, rfl⟩
  exact ⟨_, rfl, sy_grow w k os, rfl⟩
/-- What Atoi answers: the number and no error; or an error. -/
def AtoiS (s : List UInt8) (v : Value) : Prop := (∃ n, Lib.atoiAll s = .ok n ∧ v = .tuple #[i64 n, .nilIface]) ∨ ((∀ n, Lib.atoiAll s ≠ .ok n) ∧ ∃ n te pe, v = .tuple #[i64 n, .iface te pe])
theorem atoi_walk (w : World) (hl : LibAt w) (s : List UInt8) (hs : s.length ≤ 1000000) : Calls Tryd.prog 67 #[str s] w (Rets w fun v _ => AtoiS s v) := by
  cases h : Lib.atoiAll s
  · rename_i n
    refine (Any.strconv_Atoi_ok laysAtoi ⟨s.toArray⟩ (by show s.toArray.size ≤ _; rw [List.size_toArray]; omega) n h w).mono ?_
    rintro e w' ⟨rfl, rfl | ⟨t, rfl⟩⟩
    · exact ⟨_, rfl, Sy.refl _, .inl ⟨n, h, rfl⟩⟩
    · exact ⟨_, rfl, Sy.of_below (Go.Joins.below_bytesWorld _ w _ t (Nat.le_refl _)), .inl ⟨n, h, rfl⟩⟩
  · obtain ⟨ev, h1, h2⟩ := hl.2 3 (.inl rfl)
    refine (Any.strconv_Atoi_syntax laysAtoi ⟨s.toArray⟩ (by show s.toArray.size ≤ _; rw [List.size_toArray]; omega) h ev w h1 h2).mono ?_
    rintro e w' ⟨N, rfl, _, _, hb⟩
    exact ⟨_, rfl, Sy.of_below hb, .inr ⟨fun n hn => (by rw [h] at hn; cases hn), _, _, _, rfl⟩⟩
  · obtain ⟨ev, h1, h2⟩ := hl.2 4 (.inr rfl)
    refine (Any.strconv_Atoi_range laysAtoi ⟨s.toArray⟩ (by show s.toArray.size ≤ _; rw [List.size_toArray]; omega) h ev w h1 h2).mono ?_
    rintro e w' ⟨N, rfl, _, _, hb⟩
    exact ⟨_, rfl, Sy.of_below hb, .inr ⟨fun n hn => (by rw [h] at hn; cases hn), _, _, _, rfl⟩⟩
theorem blank_index (c : UInt8) : 0 ≤ Lib.indexByte [32, 9, 10] c ↔ blankB c = true := by
  by_cases h1 : c = 32
  · subst h1; decide
  by_cases h2 : c = 9
  · subst h2; decide
  by_cases h3 : c = 10
  · subst h3; decide
  have e1 : ((32 : UInt8) == c) = false := by simpa using fun e => h1 e.symm
  have e2 : ((9 : UInt8) == c) = false := by simpa using fun e => h2 e.symm
  have e3 : ((10 : UInt8) == c) = false := by simpa using fun e => h3 e.symm
  have e4 : Lib.indexByte [32, 9, 10] c = -1 := by simp [Lib.indexByte, e1, e2, e3]
  rw [e4]
  unfold blankB
  simp [h1, h2, h3]
/-- A reader gives up. -/
theorem fail_walk (w : World) (a : Value) (q : Nat) : Calls Tryd.prog 40 #[a, i64 q] w (fun e w' => e = .panicked [faultE q] ∧ Sy w [] w') := by
  refine enterB (args := [a, i64 q]) Tryd.func40 rfl Tryd.ntmps40 (congrArg Array.toList Tryd.results40) (by kernel_rfl) (by simp) (Sy.refl w) ?_
  simp (disch := omega) only [push_cast, Nat.reduceEqDiff]
  refine ⟨_, _, rfl, ?_⟩
  simp (disch := omega) only [push_cast, Nat.reduceEqDiff]
  exact fun w' hw' => hw'
end Go.Proofs.YtdmdgkpjjpijdaaDoor
/- YtdmdgkpjjpijdaaDoor: walks, part 162: a reader: blanks, signs, words. -/
namespace Go.Proofs.YtdmdgkpjjpijdaaDoor
open Go Go.K
set_option maxRecDepth 100000
set_option linter.unusedVariables false
set_option linter.unusedSimpArgs false
set_option maxHeartbeats 4000000
structure BlI (w0 : World) (rb : Nat) (s : List UInt8) (M : Own) (q : Nat) (p : Nat) (wb : World) (e : Env) (ds : List Deferred) (L : Own) : Prop where
  hw : wb = w0
  hds : ds = []
  hp : p ≤ s.length
  hq : blP s p = q
  h0 : e 0 = .pointer (some ⟨rb, 0, none⟩)
  o : L = oRd rb s p :: M
theorem getD_at {s : List UInt8} {i : Nat} (h : i < s.length) : s[i]? = some (s.getD i 0) := by
  rw [List.getD_eq_getElem?_getD, List.getElem?_eq_getElem h]
  rfl
theorem blanks_walk (wb w : World) (rb : Nat) (s : List UInt8) (p : Nat) (M : Own) (hs : s.length ≤ 65536) (hp : p ≤ s.length) (hw : Sy wb (oRd rb s p :: M) w) :
    Calls Tryd.prog 20 #[.pointer (some ⟨rb, 0, none⟩)] w (fun e w' => e = .returned (.tuple #[]) ∧ Sy wb (oRd rb s (blP s p) :: M) w') := by
  refine enterB (args := [.pointer (some ⟨rb, 0, none⟩)]) Tryd.func20 rfl Tryd.ntmps20 (congrArg Array.toList Tryd.results20) (by kernel_rfl) (by simp) hw ?_
  simp (disch := omega) only [push_cast, Nat.reduceEqDiff]
  rw [V_block]
  simp (disch := omega) only [push_cast, Nat.reduceEqDiff]
  refine loopW (G := Nat) (BlI wb rb s M (blP s p)) (fun p => s.length - p) p _ (fun w hw => hw) (by kernel_rfl) ⟨rfl, rfl, hp, rfl, rfl, rfl⟩ ?_
  rintro i wb e ds L ⟨rfl, rfl, hi, hq, h0, rfl⟩
  simp (disch := omega) only [push_cast, Nat.reduceEqDiff, h0]
  refine drawQT (by kernel_rfl) (by kernel_rfl) mixed (by kernel_rfl) ?_
  simp (disch := omega) only [push_cast, Nat.reduceEqDiff, h0]
  refine ldOne Shp.eq mem0 rfl ?_
  simp (disch := omega) only [push_cast, Nat.reduceEqDiff, h0]
  refine ldOne Shp.eq mem0 rfl ?_
  simp (disch := omega) only [push_cast, Nat.reduceEqDiff, h0]
  refine guardX_t rfl (fun hlt => ?_) (fun hge => ?_)
  · simp (disch := omega) only [push_cast, Nat.reduceEqDiff, h0]
    refine ldOne Shp.eq mem0 rfl ?_
    simp (disch := omega) only [push_cast, Nat.reduceEqDiff, h0]
    refine ldOne Shp.eq mem0 rfl ?_
    simp (disch := omega) only [push_cast, Nat.reduceEqDiff, h0]
    refine qcallV en_38 (qcallX_is _ (fun w' hw' => indexByte_walk w' [32, 9, 10] (s.getD i 0)) ?_)
    simp (disch := omega) only [push_cast, Nat.reduceEqDiff, h0]
    rw [V_cond]
    simp (disch := omega) only [push_cast, Nat.reduceEqDiff, h0]
    have hat := getD_at (s := s) (i := i) (by omega)
    refine condX_d (fun hb => ?_) (fun hb => ?_)
    · have hb2 := (blank_index _).1 hb
      simp (disch := omega) only [push_cast, Nat.reduceEqDiff, h0]
      rw [V_block]
      simp (disch := omega) only [push_cast, Nat.reduceEqDiff, h0]
      refine ldOne Shp.eq mem0 rfl ?_
      simp (disch := omega) only [push_cast, Nat.reduceEqDiff, h0]
      refine storeX 0 rfl Siz.eq rfl rfl (by simp [Value.oneCell']) (by simp) ?_
      simp (disch := omega) only [push_cast, Nat.reduceEqDiff, h0]
      exact ⟨i + 1, _, fun w hw => hw, ⟨rfl, rfl, by omega, by rw [← hq]; exact (runP_step hat hb2).symm, h0, by simp [splice]⟩, by omega⟩
    · have hb2 : blankB (s.getD i 0) = false := by
        rw [← Bool.not_eq_true]
        exact fun h => hb ((blank_index _).2 h)
      have hi2 : blP s i = i := runP_stop hat hb2
      rw [hi2] at hq
      subst hq
      simp (disch := omega) only [push_cast, Nat.reduceEqDiff, h0]
      exact fun w' hw' => hw'
  · have hi2 : blP s i = i := runP_end (by omega)
    rw [hi2] at hq
    subst hq
    simp (disch := omega) only [push_cast, Nat.reduceEqDiff, h0]
    rw [V_cond]
    simp (disch := omega) only [push_cast, Nat.reduceEqDiff, h0]
    exact fun w' hw' => hw'
theorem get_iff {s : List UInt8} {q : Nat} {c : UInt8} (h : q < s.length) : ((s.getD q 0).toNat : Int) = c.toNat ↔ s[q]? = some c := by
  rw [getD_at h]
  constructor
  · intro e
    rw [UInt8.toNat_inj.1 (by omega : (s.getD q 0).toNat = c.toNat)]
  · intro e
    rw [Option.some.inj e]
theorem get_none {s : List UInt8} {q : Nat} {c : UInt8} (h : ¬ q < s.length) : s[q]? ≠ some c := by
  rw [List.getElem?_eq_none (by omega)]
  simp
/-- Does a sign stand next? -/
theorem is_walk (wb w : World) (rb : Nat) (s : List UInt8) (p : Nat) (M : Own) (c : UInt8) (ci : Int) (hc : ci = c.toNat) (hs : s.length ≤ 65536) (hp : p ≤ s.length) (hw : Sy wb (oRd rb s p :: M) w) :
    Calls Tryd.prog 21 #[.pointer (some ⟨rb, 0, none⟩), .int .u8 ci] w (fun e w' => e = .returned (.bool (decide (s[blP s p]? = some c))) ∧ Sy wb (oRd rb s (blP s p) :: M) w') := by
  subst hc
  refine enterB (args := [.pointer (some ⟨rb, 0, none⟩), .int .u8 (c.toNat : Int)]) Tryd.func21 rfl Tryd.ntmps21 (congrArg Array.toList Tryd.results21) (by kernel_rfl) (by simp) hw ?_
  simp (disch := omega) only [push_cast, Nat.reduceEqDiff]
  refine callV en_20 (callX_base (fun w' hw' => blanks_walk wb w' rb s p M hs hp hw') ?_)
  rintro e' w' ⟨rfl, q1⟩
  refine ⟨_, _, rfl, q1, ?_⟩
  clear q1
  simp (disch := omega) only [push_cast, Nat.reduceEqDiff]
  have hle : blP s p ≤ s.length := runP_le hp
  refine drawQT (by kernel_rfl) (by kernel_rfl) mixed (by kernel_rfl) ?_
  simp (disch := omega) only [push_cast, Nat.reduceEqDiff]
  refine ldOne Shp.eq mem0 rfl ?_
  simp (disch := omega) only [push_cast, Nat.reduceEqDiff]
  refine ldOne Shp.eq mem0 rfl ?_
  simp (disch := omega) only [push_cast, Nat.reduceEqDiff]
  refine guardX_t rfl (fun hlt => ?_) (fun hge => ?_)
  · simp (disch := omega) only [push_cast, Nat.reduceEqDiff]
    refine ldOne Shp.eq mem0 rfl ?_
    simp (disch := omega) only [push_cast, Nat.reduceEqDiff]
    refine ldOne Shp.eq mem0 rfl ?_
    simp (disch := omega) only [push_cast, Nat.reduceEqDiff]
    have hg := get_iff (s := s) (q := blP s p) (c := c) (by omega)
    refine fun w' hw' => ⟨?_, hw'⟩
    simp only [hg]
  · simp (disch := omega) only [push_cast, Nat.reduceEqDiff]
    refine fun w' hw' => ⟨?_, hw'⟩
    have hn := get_none (s := s) (q := blP s p) (c := c) (by omega)
    simp [hn]
/-- A sign is taken, if it stands next. -/
theorem take_walk (wb w : World) (rb : Nat) (s : List UInt8) (p : Nat) (M : Own) (c : UInt8) (ci : Int) (hc : ci = c.toNat) (hs : s.length ≤ 65536) (hp : p ≤ s.length) (hw : Sy wb (oRd rb s p :: M) w) :
    Calls Tryd.prog 23 #[.pointer (some ⟨rb, 0, none⟩), .int .u8 ci] w (fun e w' => (e = .returned (.bool true) ∧ ∃ L', (s[blP s p]? = some c ∧ L' = oRd rb s (blP s p + 1) :: M) ∧ Sy wb L' w') ∨ (e = .returned (.bool false) ∧ ∃ L', (s[blP s p]? ≠ some c ∧ L' = oRd rb s (blP s p) :: M) ∧ Sy wb L' w')) := by
  refine enterB (args := [.pointer (some ⟨rb, 0, none⟩), .int .u8 ci]) Tryd.func23 rfl Tryd.ntmps23 (congrArg Array.toList Tryd.results23) (by kernel_rfl) (by simp) hw ?_
  simp (disch := omega) only [push_cast, Nat.reduceEqDiff]
  refine callV en_21 (callX_base (fun w' hw' => is_walk wb w' rb s p M c ci hc hs hp hw') ?_)
  rintro e' w' ⟨rfl, q1⟩
  refine ⟨_, _, rfl, q1, ?_⟩
  clear q1
  simp (disch := omega) only [push_cast, Nat.reduceEqDiff]
  rw [V_cond]
  simp (disch := omega) only [push_cast, Nat.reduceEqDiff]
  refine condX_b (fun hb => ?_) (fun hb => ?_)
  · have h : s[blP s p]? ≠ some c := by simpa using hb
    simp (disch := omega) only [push_cast, Nat.reduceEqDiff]
    exact fun w' hw' => .inr ⟨_, ⟨h, rfl⟩, hw'⟩
  · have h : s[blP s p]? = some c := by simpa using hb
    have hlt := (List.getElem?_eq_some_iff.1 h).1
    simp (disch := omega) only [push_cast, Nat.reduceEqDiff]
    refine ldOne Shp.eq mem0 rfl ?_
    simp (disch := omega) only [push_cast, Nat.reduceEqDiff]
    refine storeX 0 rfl Siz.eq rfl rfl (by simp [Value.oneCell']) (by simp) ?_
    simp (disch := omega) only [push_cast, Nat.reduceEqDiff]
    exact fun w' hw' => .inl ⟨_, ⟨h, rfl⟩, by rw [oRd, Int.natCast_add]; simpa [splice] using hw'⟩
/-- A call that gives up. -/
theorem callX_fail {wb : World} {L : Own} {Kp : KP} {K1 : Value → World → Own → Prop} {a : Value} (q : Nat) (hp : Kp [faultE q] wb L) : CallX Tryd.prog 40 #[a, i64 q] wb L (tag K1) (tag Kp) :=
  callX_pan (S := fun _ _ => False) (SP := fun ch L' => ch = [faultE q] ∧ L' = L) (fun w' hw' => (fail_walk w' a q).mono fun e w'' ⟨he, hs⟩ => .inr ⟨_, _, he, hw'.frame hs, rfl, rfl⟩) (fun _ _ h => h.elim) (fun ch L' ⟨h1, h2⟩ => by rw [h1, h2]; exact hp)
/-- A sign must stand next. -/
theorem must_walk (wb w : World) (rb : Nat) (s : List UInt8) (p : Nat) (M : Own) (c : UInt8) (ci : Int) (hc : ci = c.toNat) (hs : s.length ≤ 65536) (hp : p ≤ s.length) (hrb : wb.heap.size ≤ rb) (hw : Sy wb (oRd rb s p :: M) w) :
    Calls Tryd.prog 55 #[.pointer (some ⟨rb, 0, none⟩), .int .u8 ci] w (PRet wb rb s M (pMust s c (blP s p)) fun _ _ v K => v = .tuple #[] ∧ K = []) := by
  refine enterB (args := [.pointer (some ⟨rb, 0, none⟩), .int .u8 ci]) Tryd.func55 rfl Tryd.ntmps55 (congrArg Array.toList Tryd.results55) (by kernel_rfl) (by simp) hw ?_
  simp (disch := omega) only [push_cast, Nat.reduceEqDiff]
  refine callV en_23 (callX_two (fun L' => s[blP s p]? = some c ∧ L' = oRd rb s (blP s p + 1) :: M) (fun L' => s[blP s p]? ≠ some c ∧ L' = oRd rb s (blP s p) :: M) (fun w' hw' => take_walk wb w' rb s p M c ci hc hs hp hw') (fun L' hL' => ?_) (fun L' hL' => ?_))
  · have h := hL'.1
    have e := hL'.2
    subst e
    have hlt := (List.getElem?_eq_some_iff.1 h).1
    simp (disch := omega) only [push_cast, Nat.reduceEqDiff, Bool.not_true]
    rw [V_cond]
    simp (disch := omega) only [push_cast, Nat.reduceEqDiff, Bool.not_true]
    exact fun w' hw' => PRet.leaf (.tuple #[]) (blP s p + 1) [] (x := ()) (q := blP s (blP s p + 1)) (by unfold pMust pSign; rw [if_pos h]) rfl (by omega) ⟨rfl, rfl⟩ (by simp) hw'
  · have h := hL'.1
    have e := hL'.2
    subst e
    simp (disch := omega) only [push_cast, Nat.reduceEqDiff, Bool.not_false]
    rw [V_cond]
    simp (disch := omega) only [push_cast, Nat.reduceEqDiff, Bool.not_false]
    refine ldOne Shp.eq mem0 rfl ?_
    simp (disch := omega) only [push_cast, Nat.reduceEqDiff]
    refine callV en_40 (callX_fail (blP s p) ?_)
    simp (disch := omega) only [push_cast, Nat.reduceEqDiff]
    exact fun w' hw' => PRet.fall [oRd rb s (blP s p)] (by unfold pMust pSign; rw [if_neg h]) (fun b hb => by rw [List.mem_singleton.1 hb]; exact hrb) hw'
/-- The end must be there. -/
theorem end_walk (wb w : World) (rb : Nat) (s : List UInt8) (p : Nat) (M : Own) (hs : s.length ≤ 65536) (hp : p ≤ s.length) (hrb : wb.heap.size ≤ rb) (hw : Sy wb (oRd rb s p :: M) w) :
    Calls Tryd.prog 25 #[.pointer (some ⟨rb, 0, none⟩)] w (PRet wb rb s M (pEnd s () (blP s p)) fun _ _ v K => v = .tuple #[] ∧ K = []) := by
  refine enterB (args := [.pointer (some ⟨rb, 0, none⟩)]) Tryd.func25 rfl Tryd.ntmps25 (congrArg Array.toList Tryd.results25) (by kernel_rfl) (by simp) hw ?_
  simp (disch := omega) only [push_cast, Nat.reduceEqDiff]
  refine callV en_20 (callX_base (fun w' hw' => blanks_walk wb w' rb s p M hs hp hw') ?_)
  rintro e' w' ⟨rfl, q1⟩
  refine ⟨_, _, rfl, q1, ?_⟩
  clear q1
  simp (disch := omega) only [push_cast, Nat.reduceEqDiff]
  have hle : blP s p ≤ s.length := runP_le hp
  refine drawQT (by kernel_rfl) (by kernel_rfl) mixed (by kernel_rfl) ?_
  simp (disch := omega) only [push_cast, Nat.reduceEqDiff]
  refine ldOne Shp.eq mem0 rfl ?_
  simp (disch := omega) only [push_cast, Nat.reduceEqDiff]
  refine ldOne Shp.eq mem0 rfl ?_
  simp (disch := omega) only [push_cast, Nat.reduceEqDiff]
  rw [V_cond]
  simp (disch := omega) only [push_cast, Nat.reduceEqDiff]
  refine condX_d (fun hlt => ?_) (fun hge => ?_)
  · simp (disch := omega) only [push_cast, Nat.reduceEqDiff]
    refine ldOne Shp.eq mem0 rfl ?_
    simp (disch := omega) only [push_cast, Nat.reduceEqDiff]
    refine callV en_40 (callX_fail (blP s p) ?_)
    simp (disch := omega) only [push_cast, Nat.reduceEqDiff]
    exact fun w' hw' => PRet.fall [oRd rb s (blP s p)] (by unfold pEnd; rw [if_pos (by omega)]) (fun b hb => by rw [List.mem_singleton.1 hb]; exact hrb) hw'
  · simp (disch := omega) only [push_cast, Nat.reduceEqDiff]
    exact fun w' hw' => PRet.leaf (.tuple #[]) (blP s p) [] (x := ()) (q := blP s p) (by unfold pEnd; rw [if_neg (by omega)]) (runP_idem _ _ _) hle ⟨rfl, rfl⟩ (by simp) hw'
structure WdI (w0 : World) (rb : Nat) (s : List UInt8) (M : Own) (q0 q : Nat) (p : Nat) (wb : World) (e : Env) (ds : List Deferred) (L : Own) : Prop where
  hw : wb = w0
  hds : ds = []
  hp : p ≤ s.length
  hq : weP s p = q
  h0 : e 0 = .pointer (some ⟨rb, 0, none⟩)
  h4 : e 4 = i64 q0
  o : L = oRd rb s p :: M
/-- A word must stand next. -/
theorem word_walk (wb w : World) (rb : Nat) (s : List UInt8) (p : Nat) (M : Own) (hs : s.length ≤ 65536) (hp : p ≤ s.length) (hrb : wb.heap.size ≤ rb) (hw : Sy wb (oRd rb s p :: M) w) :
    Calls Tryd.prog 52 #[.pointer (some ⟨rb, 0, none⟩)] w (PRet wb rb s M (pWord s (blP s p)) fun x _ v K => v = .tuple #[str x, i64 (blP s p)] ∧ K = []) := by
  refine enterB (args := [.pointer (some ⟨rb, 0, none⟩)]) Tryd.func52 rfl Tryd.ntmps52 (congrArg Array.toList Tryd.results52) (by kernel_rfl) (by simp) hw ?_
  simp (disch := omega) only [push_cast, Nat.reduceEqDiff]
  refine callV en_20 (callX_base (fun w' hw' => blanks_walk wb w' rb s p M hs hp hw') ?_)
  rintro e' w' ⟨rfl, q1⟩
  refine ⟨_, _, rfl, q1, ?_⟩
  clear q1
  simp (disch := omega) only [push_cast, Nat.reduceEqDiff]
  have hle : blP s p ≤ s.length := runP_le hp
  refine ldOne Shp.eq mem0 rfl ?_
  simp (disch := omega) only [push_cast, Nat.reduceEqDiff]
  rw [V_block]
  simp (disch := omega) only [push_cast, Nat.reduceEqDiff]
  refine loopW (G := Nat) (WdI wb rb s M (blP s p) (weP s (blP s p))) (fun p => s.length - p) (blP s p) _ (fun w hw => hw) (by kernel_rfl) ⟨rfl, rfl, hle, rfl, rfl, rfl, rfl⟩ ?_
  rintro i wb e ds L ⟨rfl, rfl, hi, hq, h0, h4, rfl⟩
  simp (disch := omega) only [push_cast, Nat.reduceEqDiff, h0, h4]
  refine drawQT (by kernel_rfl) (by kernel_rfl) mixed (by kernel_rfl) ?_
  simp (disch := omega) only [push_cast, Nat.reduceEqDiff, h0, h4]
  refine ldOne Shp.eq mem0 rfl ?_
  simp (disch := omega) only [push_cast, Nat.reduceEqDiff, h0, h4]
  refine ldOne Shp.eq mem0 rfl ?_
  simp (disch := omega) only [push_cast, Nat.reduceEqDiff, h0, h4]
  refine guardX_t rfl (fun hlt => ?_) (fun hge => ?_)
  · simp (disch := omega) only [push_cast, Nat.reduceEqDiff, h0, h4]
    refine ldOne Shp.eq mem0 rfl ?_
    simp (disch := omega) only [push_cast, Nat.reduceEqDiff, h0, h4]
    refine ldOne Shp.eq mem0 rfl ?_
    simp (disch := omega) only [push_cast, Nat.reduceEqDiff, h0, h4]
    refine qcallV en_58 (qcallX_is _ (fun w' hw' => letter_walk w' ((s.getD i 0).toNat)) ?_)
    simp (disch := omega) only [push_cast, Nat.reduceEqDiff, h0, h4]
    rw [V_cond]
    simp (disch := omega) only [push_cast, Nat.reduceEqDiff, h0, h4]
    have hat := getD_at (s := s) (i := i) (by omega)
    refine condX_d (fun hb => ?_) (fun hb => ?_)
    · simp (disch := omega) only [push_cast, Nat.reduceEqDiff, h0, h4]
      rw [V_block]
      simp (disch := omega) only [push_cast, Nat.reduceEqDiff, h0, h4]
      refine ldOne Shp.eq mem0 rfl ?_
      simp (disch := omega) only [push_cast, Nat.reduceEqDiff, h0, h4]
      refine storeX 0 rfl Siz.eq rfl rfl (by simp [Value.oneCell']) (by simp) ?_
      simp (disch := omega) only [push_cast, Nat.reduceEqDiff, h0, h4]
      exact ⟨i + 1, _, fun w hw => hw, ⟨rfl, rfl, by omega, by rw [← hq]; exact (runP_step hat (decide_eq_true hb)).symm, h0, h4, by simp [splice]⟩, by omega⟩
    · have hi2 : weP s i = i := runP_stop hat (decide_eq_false hb)
      simp (disch := omega) only [push_cast, Nat.reduceEqDiff, h0, h4]
      refine ldOne Shp.eq mem0 rfl ?_
      simp (disch := omega) only [push_cast, Nat.reduceEqDiff, h0, h4]
      rw [V_cond]
      simp (disch := omega) only [push_cast, Nat.reduceEqDiff, h0, h4]
      have hwe : weP s (blP s p) = i := hq.symm.trans hi2
      refine condX_d (fun he => ?_) (fun he => ?_)
      · simp (disch := omega) only [push_cast, Nat.reduceEqDiff, h0, h4]
        refine callV en_40 (callX_fail (blP s p) ?_)
        simp (disch := omega) only [push_cast, Nat.reduceEqDiff, h0, h4]
        exact fun w' hw' => PRet.fall [oRd rb s i] (by unfold pWord; rw [if_pos (by omega)]) (fun b hb => by rw [List.mem_singleton.1 hb]; exact hrb) hw'
      · simp (disch := omega) only [push_cast, Nat.reduceEqDiff, h0, h4]
        refine drawQT (by kernel_rfl) (by kernel_rfl) mixed (by kernel_rfl) ?_
        simp (disch := omega) only [push_cast, Nat.reduceEqDiff, h0, h4]
        refine ldOne Shp.eq mem0 rfl ?_
        simp (disch := omega) only [push_cast, Nat.reduceEqDiff, h0, h4]
        refine ldOne Shp.eq mem0 rfl ?_
        have hge2 := runP_ge letB s (blP s p)
        have hqi : blP s p ≤ i := by rw [← hwe]; exact hge2
        simp (disch := omega) only [push_cast, Nat.reduceEqDiff, h0, h4, Int.toNat_natCast]
        exact fun w' hw' => PRet.leaf _ i [] (x := (s.take i).drop (blP s p)) (q := blP s i) (by unfold pWord; rw [hwe, if_neg (by omega)]) rfl hi ⟨rfl, rfl⟩ (by simp) hw'
  · have hi2 : weP s i = i := runP_end (by omega)
    simp (disch := omega) only [push_cast, Nat.reduceEqDiff, h0, h4]
    rw [V_cond]
    simp (disch := omega) only [push_cast, Nat.reduceEqDiff, h0, h4]
    refine ldOne Shp.eq mem0 rfl ?_
    simp (disch := omega) only [push_cast, Nat.reduceEqDiff, h0, h4]
    rw [V_cond]
    simp (disch := omega) only [push_cast, Nat.reduceEqDiff, h0, h4]
    have hwe : weP s (blP s p) = i := hq.symm.trans hi2
    refine condX_d (fun he => ?_) (fun he => ?_)
    · simp (disch := omega) only [push_cast, Nat.reduceEqDiff, h0, h4]
      refine callV en_40 (callX_fail (blP s p) ?_)
      simp (disch := omega) only [push_cast, Nat.reduceEqDiff, h0, h4]
      exact fun w' hw' => PRet.fall [oRd rb s i] (by unfold pWord; rw [if_pos (by omega)]) (fun b hb => by rw [List.mem_singleton.1 hb]; exact hrb) hw'
    · simp (disch := omega) only [push_cast, Nat.reduceEqDiff, h0, h4]
      refine drawQT (by kernel_rfl) (by kernel_rfl) mixed (by kernel_rfl) ?_
      simp (disch := omega) only [push_cast, Nat.reduceEqDiff, h0, h4]
      refine ldOne Shp.eq mem0 rfl ?_
      simp (disch := omega) only [push_cast, Nat.reduceEqDiff, h0, h4]
      refine ldOne Shp.eq mem0 rfl ?_
      have hge2 := runP_ge letB s (blP s p)
      have hqi : blP s p ≤ i := by rw [← hwe]; exact hge2
      simp (disch := omega) only [push_cast, Nat.reduceEqDiff, h0, h4, Int.toNat_natCast]
      exact fun w' hw' => PRet.leaf _ i [] (x := (s.take i).drop (blP s p)) (q := blP s i) (by unfold pWord; rw [hwe, if_neg (by omega)]) rfl hi ⟨rfl, rfl⟩ (by simp) hw'
end Go.Proofs.YtdmdgkpjjpijdaaDoor
/- YtdmdgkpjjpijdaaDoor: walks, part 163: a reader: numbers, the words of kinds. -/
namespace Go.Proofs.YtdmdgkpjjpijdaaDoor
open Go Go.K
set_option maxRecDepth 100000
set_option linter.unusedVariables false
set_option linter.unusedSimpArgs false
set_option maxHeartbeats 4000000
theorem word_ne {s w : List UInt8} {q r : Nat} (h : pWord s q = .ok w r) : w ≠ [] ∧ w.length ≤ s.length := by
  unfold pWord at h
  split at h
  · cases h
  rename_i hne
  cases h
  have h1 : q ≤ weP s q := runP_ge letB s q
  have h2 : (weP s q ≤ s.length ∨ s.length < q) := by
    rcases Nat.lt_or_ge s.length q with h3 | h3
    · exact .inr h3
    · exact .inl (runP_le h3)
  rcases h2 with h2 | h2
  · constructor
    · intro e
      have := congrArg List.length e
      rw [List.length_drop, List.length_take, List.length_nil] at this
      omega
    · rw [List.length_drop, List.length_take]; omega
  · exact absurd (runP_end (by omega)) hne
theorem bin_err_nil {K : Value → Prop} (x : Operand) : PureX Tryd.prog (binV .neq 110 x (.const .nilIface) .nilIface .nilIface) (tag K) = K (.bool false) := px (fun w => by
  have h : (Op.equal 110 .nilIface .nilIface).run Tryd.prog w = .ok true w := by
    show (Op.equalIn (9999 + 1) 110 .nilIface .nilIface).run Tryd.prog w = _
    unfold Op.equalIn
    simp only [underlying, Sem.run_bind, run_program, Result.andThen_ok, Tryd.underlying110, Sem.run_pure]
  simp [binV, eqGuard, binOp, h]) K
theorem bin_err_some {K : Value → Prop} (x : Operand) (te : TypeId) (pe : Value) : PureX Tryd.prog (binV .neq 110 x (.const .nilIface) (.iface te pe) .nilIface) (tag K) = K (.bool true) := px (fun w => by
  first
  | rfl
  | (simp [binV, eqGuard, binOp]; done)) K
theorem atoi_le {w : List UInt8} {n : Int} (h : Lib.atoiAll w = .ok n) : n ≤ 9223372036854775807 := by
  unfold Lib.atoiAll at h
  split at h
  · cases h
  simp only at h
  split at h
  · cases h
  · cases h
  · rename_i u _
    split at h
    · cases h
    split at h
    · cases h
    · rename_i h1 h2
      have h3 := Lib.NumEnd.ok.inj h
      split at h3 <;> omega
theorem number_walk (wb w : World) (hlib : LibAt wb) (rb : Nat) (s : List UInt8) (p : Nat) (M : Own) (hs : s.length ≤ 65536) (hp : p ≤ s.length) (hrb : wb.heap.size ≤ rb) (hM : ∀ b ∈ M, wb.heap.size ≤ b.1) (hw : Sy wb (oRd rb s p :: M) w) :
    Calls Tryd.prog 62 #[.pointer (some ⟨rb, 0, none⟩)] w (PRet wb rb s M (pNum s (blP s p)) fun n _ v K => v = i64 n ∧ K = []) := by
  refine enterB (args := [.pointer (some ⟨rb, 0, none⟩)]) Tryd.func62 rfl Tryd.ntmps62 (congrArg Array.toList Tryd.results62) (by kernel_rfl) (by simp) hw ?_
  simp (disch := omega) only [push_cast, Nat.reduceEqDiff]
  have hL : ∀ p', ∀ b ∈ oRd rb s p' :: M, wb.heap.size ≤ b.1 := fun p' b hb => by
    rcases List.mem_cons.1 hb with rfl | hb
    · exact hrb
    · exact hM b hb
  refine callV en_52 (callX_pr (fun w' hw' => word_walk wb w' rb s p M hs hp hrb hw') (fun x q v p' K hr hq hp' hS hK => ?_) (fun q K hr hK => ?_))
  rotate_left
  · simp (disch := omega) only [push_cast, Nat.reduceEqDiff]
    exact fun w' hw' => PRet.fall K (by rw [pNum, hr, PR.and_no]) hK hw'
  have e1 := hS.1
  have e2 := hS.2
  subst e1
  subst e2
  have hx := word_ne hr
  simp (disch := omega) only [push_cast, Nat.reduceEqDiff]
  refine callV en_67 (callX_ex (fun w' hw' => atoi_walk w' (hlib.mono hw' (hL p')) x (by omega)) (fun v hv => ?_))
  rcases hv with ⟨n, hn, rfl⟩ | ⟨hno, n, te, pe, rfl⟩
  · simp (disch := omega) only [push_cast, Nat.reduceEqDiff]
    refine Eq.mpr (bin_err_nil _) ?_
    simp (disch := omega) only [push_cast, Nat.reduceEqDiff]
    have hnum : numOK x = true → n = numOf x := fun h => by
      have h1 := (num_yes h hx.1).1
      rw [hn] at h1
      cases h1
      rfl
    refine guardX_f rfl (fun h4 => ?_) (fun h4 => ?_)
    rotate_left
    · simp (disch := omega) only [push_cast, Nat.reduceEqDiff]
      rw [V_cond]
      simp (disch := omega) only [push_cast, Nat.reduceEqDiff]
      refine callV en_40 (callX_fail (blP s p) ?_)
      simp (disch := omega) only [push_cast, Nat.reduceEqDiff]
      have hno2 : ¬ numOK x = true := fun h => by have := ((numOK_iff x).1 h).1; omega
      exact fun w' hw' => PRet.fall [oRd rb s p'] (by rw [pNum, hr, PR.and_ok, if_neg hno2]) (fun b hb => by rw [List.mem_singleton.1 hb]; exact hrb) hw'
    simp (disch := omega) only [push_cast, Nat.reduceEqDiff]
    refine guardX_f rfl (fun h0 => ?_) (fun h0 => ?_)
    rotate_left
    · simp (disch := omega) only [push_cast, Nat.reduceEqDiff]
      rw [V_cond]
      simp (disch := omega) only [push_cast, Nat.reduceEqDiff]
      refine callV en_40 (callX_fail (blP s p) ?_)
      simp (disch := omega) only [push_cast, Nat.reduceEqDiff]
      have hno2 : ¬ numOK x = true := fun h => by have := hnum h; omega
      exact fun w' hw' => PRet.fall [oRd rb s p'] (by rw [pNum, hr, PR.and_ok, if_neg hno2]) (fun b hb => by rw [List.mem_singleton.1 hb]; exact hrb) hw'
    simp (disch := omega) only [push_cast, Nat.reduceEqDiff]
    refine callV en_68 (callX_is (fun w' hw' => itoa_walk w' (hlib.mono hw' (hL p')) n (by omega) (atoi_le hn)) ?_)
    simp (disch := omega) only [push_cast, Nat.reduceEqDiff]
    rw [V_cond]
    simp (disch := omega) only [push_cast, Nat.reduceEqDiff]
    refine condX_d (fun hne => ?_) (fun he => ?_)
    · simp (disch := omega) only [push_cast, Nat.reduceEqDiff]
      refine callV en_40 (callX_fail (blP s p) ?_)
      simp (disch := omega) only [push_cast, Nat.reduceEqDiff]
      have hno2 : ¬ numOK x = true := fun h => hne (by rw [hnum h]; exact (num_yes h hx.1).2.1)
      exact fun w' hw' => PRet.fall [oRd rb s p'] (by rw [pNum, hr, PR.and_ok, if_neg hno2]) (fun b hb => by rw [List.mem_singleton.1 hb]; exact hrb) hw'
    · simp (disch := omega) only [push_cast, Nat.reduceEqDiff]
      have he2 : Lib.itoa n = x := Decidable.not_not.1 he
      have hyes : numOK x = true := Decidable.not_not.1 fun h => num_no h (by omega) (by omega) he2
      exact fun w' hw' => PRet.leaf (i64 n) p' [] (x := numOf x) (q := q) (by rw [pNum, hr, PR.and_ok, if_pos hyes]) hq hp' ⟨by rw [hnum hyes], rfl⟩ (by simp) hw'
  · simp (disch := omega) only [push_cast, Nat.reduceEqDiff]
    refine Eq.mpr (bin_err_some _ _ _) ?_
    simp (disch := omega) only [push_cast, Nat.reduceEqDiff]
    rw [V_cond]
    simp (disch := omega) only [push_cast, Nat.reduceEqDiff]
    refine callV en_40 (callX_fail (blP s p) ?_)
    simp (disch := omega) only [push_cast, Nat.reduceEqDiff]
    have hno2 : ¬ numOK x = true := fun h => hno _ (num_yes h hx.1).1
    exact fun w' hw' => PRet.fall [oRd rb s p'] (by rw [pNum, hr, PR.and_ok, if_neg hno2]) (fun b hb => by rw [List.mem_singleton.1 hb]; exact hrb) hw'
structure KdI (w0 : World) (rb : Nat) (s : List UInt8) (p' : Nat) (M : Own) (g : FuncId) (lets : Nat → Bool) (x : List UInt8) (q0 : Nat) (k : Nat) (wb : World) (e : Env) (ds : List Deferred) (L : Own) : Prop where
  hw : wb = w0
  hds : ds = []
  hk1 : 1 ≤ k
  hk2 : k ≤ 21
  hno : ∀ j, 0 < j → j < k → saysWord j = x → lets j = false
  h0 : e 0 = .pointer (some ⟨rb, 0, none⟩)
  h1 : e 1 = .func (.func g) #[] #[]
  h5 : e 5 = str x
  h6 : e 6 = i64 q0
  h7 : e 7 = i64 k
  o : L = oRd rb s p' :: M
theorem kind_walk (wb w : World) (hsy : SaysAt wb) (rb : Nat) (s : List UInt8) (p : Nat) (M : Own) (g : FuncId) (lets : Nat → Bool) (hen : entersB Tryd.prog g = true) (hlets : ∀ (w' : World) (k : Nat), SaysAt w' → 1 ≤ k → k ≤ 20 → Calls Tryd.prog g #[i64 k] w' (Rets w' (Is (.bool (lets k)))))
    (hs : s.length ≤ 65536) (hp : p ≤ s.length) (hrb : wb.heap.size ≤ rb) (hM : ∀ b ∈ M, wb.heap.size ≤ b.1) (hw : Sy wb (oRd rb s p :: M) w) :
    Calls Tryd.prog 61 #[.pointer (some ⟨rb, 0, none⟩), .func (.func g) #[] #[]] w (PRet wb rb s M (pKind s lets (blP s p)) fun n _ v K => v = i64 n ∧ K = []) := by
  refine enterB (args := [.pointer (some ⟨rb, 0, none⟩), .func (.func g) #[] #[]]) Tryd.func61 rfl Tryd.ntmps61 (congrArg Array.toList Tryd.results61) (by kernel_rfl) (by simp) hw ?_
  simp (disch := omega) only [push_cast, Nat.reduceEqDiff]
  have hL : ∀ p', ∀ b ∈ oRd rb s p' :: M, wb.heap.size ≤ b.1 := fun p' b hb => by
    rcases List.mem_cons.1 hb with rfl | hb
    · exact hrb
    · exact hM b hb
  refine callV en_52 (callX_pr (fun w' hw' => word_walk wb w' rb s p M hs hp hrb hw') (fun x q v p' K hr hq hp' hS hK => ?_) (fun q K hr hK => ?_))
  rotate_left
  · simp (disch := omega) only [push_cast, Nat.reduceEqDiff]
    exact fun w' hw' => PRet.fall K (by rw [pKind, hr, PR.and_no]) hK hw'
  have e1 := hS.1
  have e2 := hS.2
  subst e1
  subst e2
  have hx := word_ne hr
  simp (disch := omega) only [push_cast, Nat.reduceEqDiff]
  rw [V_block]
  simp (disch := omega) only [push_cast, Nat.reduceEqDiff]
  refine loopW (G := Nat) (KdI wb rb s p' M g lets x (blP s p)) (fun k => 21 - k) 1 _ (fun w hw => hw) (by kernel_rfl) ⟨rfl, rfl, by omega, by omega, fun j h1 h2 => by omega, rfl, rfl, rfl, rfl, rfl, rfl⟩ ?_
  rintro k wb e ds L ⟨rfl, rfl, hk1, hk2, hno, h0, h1, h5, h6, h7, rfl⟩
  simp (disch := omega) only [push_cast, Nat.reduceEqDiff, h0, h1, h5, h6, h7]
  rw [V_cond]
  simp (disch := omega) only [push_cast, Nat.reduceEqDiff, h0, h1, h5, h6, h7]
  refine condX_d (fun hle => ?_) (fun hgt => ?_)
  · simp (disch := omega) only [push_cast, Nat.reduceEqDiff, h0, h1, h5, h6, h7]
    rw [V_block]
    simp (disch := omega) only [push_cast, Nat.reduceEqDiff, h0, h1, h5, h6, h7]
    refine ldF Shp.eq ((hsy.2 k (by omega)).sub 0 [str (saysWord k)] rfl) (out_of (fun p hp => Nat.lt_of_lt_of_le hsy.1 (hL _ p hp))) ?_
    simp (disch := omega) only [push_cast, Nat.reduceEqDiff, h0, h1, h5, h6, h7]
    refine guardX_t rfl (fun he => ?_) (fun hne => ?_)
    · simp (disch := omega) only [push_cast, Nat.reduceEqDiff, h0, h1, h5, h6, h7]
      refine callV hen (callX_is (fun w' hw' => hlets w' k (hsy.mono hw' (hL p')) hk1 (by omega)) ?_)
      simp (disch := omega) only [push_cast, Nat.reduceEqDiff, h0, h1, h5, h6, h7]
      rw [V_cond]
      simp (disch := omega) only [push_cast, Nat.reduceEqDiff, h0, h1, h5, h6, h7]
      refine condX_b (fun hb => ?_) (fun hb => ?_)
      · simp (disch := omega) only [push_cast, Nat.reduceEqDiff, h0, h1, h5, h6, h7]
        have hkw : kindW x = k := kindW_of (by omega) (by omega) he
        exact fun w' hw' => PRet.leaf (i64 k) p' [] (x := k) (q := q) (by rw [pKind, hr, PR.and_ok, hkw, if_pos ⟨by omega, hb⟩]) hq hp' ⟨rfl, rfl⟩ (by simp) hw'
      · simp (disch := omega) only [push_cast, Nat.reduceEqDiff, h0, h1, h5, h6, h7]
        refine ⟨k + 1, _, fun w hw => hw, ⟨rfl, rfl, by omega, by omega, fun j j1 j2 j3 => ?_, h0, h1, h5, h6, by simp only [upd]; rfl, rfl⟩, by omega⟩
        rcases Nat.lt_or_ge j k with j4 | j4
        · exact hno j j1 j4 j3
        · obtain rfl : j = k := by omega
          exact hb
    · simp (disch := omega) only [push_cast, Nat.reduceEqDiff, h0, h1, h5, h6, h7]
      rw [V_cond]
      simp (disch := omega) only [push_cast, Nat.reduceEqDiff, h0, h1, h5, h6, h7]
      refine ⟨k + 1, _, fun w hw => hw, ⟨rfl, rfl, by omega, by omega, fun j j1 j2 j3 => ?_, h0, h1, h5, h6, by simp only [upd]; rfl, rfl⟩, by omega⟩
      rcases Nat.lt_or_ge j k with j4 | j4
      · exact hno j j1 j4 j3
      · obtain rfl : j = k := by omega
        exact absurd j3 hne
  · simp (disch := omega) only [push_cast, Nat.reduceEqDiff, h0, h1, h5, h6, h7]
    refine callV en_40 (callX_fail (blP s p) ?_)
    simp (disch := omega) only [push_cast, Nat.reduceEqDiff, h0, h1, h5, h6, h7]
    have hno2 : ¬ (kindW x ≠ 0 ∧ lets (kindW x) = true) := fun ⟨a1, a2⟩ => by
      have a3 := kindW_word a1
      rw [hno _ a3.1 (by omega) a3.2.2] at a2
      cases a2
    exact fun w' hw' => PRet.fall [oRd rb s p'] (by rw [pKind, hr, PR.and_ok, if_neg hno2]) (fun b hb => by rw [List.mem_singleton.1 hb]; exact hrb) hw'
/-- All kinds are let; those of a dictionary's indices. -/
theorem known_lets (w' : World) (k : Nat) (hs : SaysAt w') (h1 : 1 ≤ k) (h2 : k ≤ 20) : Calls Tryd.prog 59 #[i64 k] w' (Rets w' (Is (.bool true))) := by
  have h := known_walk w' k
  rwa [show decide (1 ≤ (k : Int) ∧ (k : Int) ≤ 20) = true from decide_eq_true (by omega)] at h
theorem index_lets (w' : World) (k : Nat) (hs : SaysAt w') (h1 : 1 ≤ k) (h2 : k ≤ 20) : Calls Tryd.prog 64 #[i64 k] w' (Rets w' (Is (.bool (saysIdx k)))) := by
  refine enterT (args := [i64 k]) Tryd.func64 rfl Tryd.ntmps64 (congrArg Array.toList Tryd.results64) (by kernel_rfl) (by simp) (Sy.refl w') ?_
  simp (disch := omega) only [push_cast, Nat.reduceEqDiff]
  refine ldF Shp.eq ((hs.2 k (by omega)).sub 3 [.bool (saysIdx k)] rfl) (by simp) ?_
  simp (disch := omega) only [push_cast, Nat.reduceEqDiff]
  exact finIs (by simp) rfl
end Go.Proofs.YtdmdgkpjjpijdaaDoor
