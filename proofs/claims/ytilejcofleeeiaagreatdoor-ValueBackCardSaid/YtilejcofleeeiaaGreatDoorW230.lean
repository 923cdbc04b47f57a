/- YtilejcofleeeiaaGreatDoor: walks, part 230: a parser: bytes that are written otherwise. -/
import Derived.Test.YtilejcofleeeiaaGreatDoorW228
namespace Go.Proofs.YtilejcofleeeiaaGreatDoor
open Go Go.K
set_option maxRecDepth 100000
set_option linter.unusedVariables false
set_option linter.unusedSimpArgs false
set_option maxHeartbeats 4000000
structure RoI (w0 : World) (pb : Nat) (s : List UInt8) (g : FuncId) (q : Nat) (f : UInt8 → Bool) (i : Nat) (wb : World) (e : Env) (ds : List Deferred) (L : Own) : Prop where
  hw : wb = w0
  hds : ds = []
  hi : i ≤ s.length
  hq : runP f s i = q
  h0 : e 0 = pPs pb
  h1 : e 1 = .func (.func g) #[] #[]
  h5 : e 5 = i64 i
  o : L = []
theorem row_walk (w : World) (pb : Nat) (s : List UInt8) (p : Nat) (g : FuncId) (f : UInt8 → Bool) (hen : entersB Tryz.prog g = true) (hg : ∀ (w' : World) (c : UInt8), Calls Tryz.prog g #[.int .u8 c.toNat] w' (Rets w' (Is (.bool (f c))))) (hs : s.length ≤ 65536) (hp : p ≤ s.length) (hat : At w pb 0 [str s, i64 p]) :
    Calls Tryz.prog 66 #[pPs pb, .func (.func g) #[] #[]] w (Rets w (Is (str (rowP f s p)))) := by
  refine enterT (args := [pPs pb, .func (.func g) #[] #[]]) Tryz.func66 rfl Tryz.ntmps66 (congrArg Array.toList Tryz.results66) (by kernel_rfl) (by simp) (Sy.refl w) ?_
  have a1 : At w pb 1 [i64 p] := hat.sub 1 [i64 p] rfl
  have a0 : At w pb 0 [str s] := hat.sub 0 [str s] rfl
  simp (disch := omega) only [push_cast, Nat.reduceEqDiff]
  refine ldF Shp.eq a1 (by simp) ?_
  simp (disch := omega) only [push_cast, Nat.reduceEqDiff]
  rw [V_block]
  simp (disch := omega) only [push_cast, Nat.reduceEqDiff]
  refine loopW (G := Nat) (RoI w pb s g (runP f s p) f) (fun i => s.length - i) p _ (fun w hw => hw) (by kernel_rfl) ⟨rfl, rfl, hp, rfl, rfl, rfl, rfl, rfl⟩ ?_
  rintro i wb e ds L ⟨rfl, rfl, hi, hq, h0, h1, h5, rfl⟩
  have fin : runP f s i = i → str (List.take i s |>.drop p) = str (rowP f s p) := fun h => by rw [rowP_eq, ← hq, h]
  simp (disch := omega) only [push_cast, Nat.reduceEqDiff, h0, h1, h5]
  refine ldF Shp.eq a0 (by simp) ?_
  simp (disch := omega) only [push_cast, Nat.reduceEqDiff, h0, h1, h5]
  refine guardX_t rfl (fun hlt => ?_) (fun hge => ?_)
  · simp (disch := omega) only [push_cast, Nat.reduceEqDiff, h0, h1, h5]
    refine ldF Shp.eq a0 (by simp) ?_
    simp (disch := omega) only [push_cast, Nat.reduceEqDiff, h0, h1, h5]
    refine callV hen (callX_is (fun w' _ => hg w' (s.getD i 0)) ?_)
    have hat' := getD_at (s := s) (i := i) (by omega)
    simp (disch := omega) only [push_cast, Nat.reduceEqDiff, h0, h1, h5]
    rw [V_cond]
    simp (disch := omega) only [push_cast, Nat.reduceEqDiff, h0, h1, h5]
    refine condX_b (fun hb => ?_) (fun hb => ?_)
    · simp (disch := omega) only [push_cast, Nat.reduceEqDiff, h0, h1, h5]
      rw [V_block]
      simp (disch := omega) only [push_cast, Nat.reduceEqDiff, h0, h1, h5]
      exact ⟨i + 1, _, fun w hw => hw, ⟨rfl, rfl, by omega, by rw [← hq]; exact (runP_step hat' hb).symm, h0, h1, i64_eq (by omega), rfl⟩, by omega⟩
    · have hi2 : runP f s i = i := runP_stop hat' hb
      simp (disch := omega) only [push_cast, Nat.reduceEqDiff, h0, h1, h5]
      refine drawQT (by kernel_rfl) (by kernel_rfl) mixed (by kernel_rfl) ?_
      simp (disch := omega) only [push_cast, Nat.reduceEqDiff, h0, h1, h5]
      refine ldF Shp.eq a0 (by simp) ?_
      simp (disch := omega) only [push_cast, Nat.reduceEqDiff, h0, h1, h5]
      refine ldF Shp.eq a1 (by simp) ?_
      have hqi : p ≤ i := by have := runP_ge f s p; omega
      simp (disch := omega) only [push_cast, Nat.reduceEqDiff, h0, h1, h5, Int.toNat_natCast]
      exact finIs (by simp) (fin hi2)
  · have hi2 : runP f s i = i := runP_end (by omega)
    simp (disch := omega) only [push_cast, Nat.reduceEqDiff, h0, h1, h5]
    rw [V_cond]
    simp (disch := omega) only [push_cast, Nat.reduceEqDiff, h0, h1, h5]
    refine drawQT (by kernel_rfl) (by kernel_rfl) mixed (by kernel_rfl) ?_
    simp (disch := omega) only [push_cast, Nat.reduceEqDiff, h0, h1, h5]
    refine ldF Shp.eq a0 (by simp) ?_
    simp (disch := omega) only [push_cast, Nat.reduceEqDiff, h0, h1, h5]
    refine ldF Shp.eq a1 (by simp) ?_
    have hqi : p ≤ i := by have := runP_ge f s p; omega
    simp (disch := omega) only [push_cast, Nat.reduceEqDiff, h0, h1, h5, Int.toNat_natCast]
    exact finIs (by simp) (fin hi2)
theorem named_walk2 (w : World) (pb : Nat) (s : List UInt8) (p q : Nat) (hs : s.length ≤ 65536) (hat : At w pb 0 [str s, i64 p]) :
    Calls Tryz.prog 68 #[pPs pb, i64 q] w (Rets w (Is (.bool (opensB s q)))) := by
  refine enterT (args := [pPs pb, i64 q]) Tryz.func68 rfl Tryz.ntmps68 (congrArg Array.toList Tryz.results68) (by kernel_rfl) (by simp) (Sy.refl w) ?_
  have a0 : At w pb 0 [str s] := hat.sub 0 [str s] rfl
  simp (disch := omega) only [push_cast, Nat.reduceEqDiff]
  refine ldF Shp.eq a0 (by simp) ?_
  simp (disch := omega) only [push_cast, Nat.reduceEqDiff]
  refine guardX_t rfl (fun hlt => ?_) (fun hge => ?_)
  · have hat' := getD_at (s := s) (i := q) (by omega)
    have ho : opensB s q = (decide ((s.getD q 0).toNat = 40) || nameB (s.getD q 0)) := by unfold opensB; rw [hat']
    rw [ho]
    simp (disch := omega) only [push_cast, Nat.reduceEqDiff]
    refine ldF Shp.eq a0 (by simp) ?_
    simp (disch := omega) only [push_cast, Nat.reduceEqDiff]
    refine guardX_f rfl (fun h4 => ?_) (fun h4 => ?_)
    · simp (disch := omega) only [push_cast, Nat.reduceEqDiff]
      refine ldF Shp.eq a0 (by simp) ?_
      simp (disch := omega) only [push_cast, Nat.reduceEqDiff]
      refine callV en_100 (callX_is (fun w' _ => letter_walk2 w' (s.getD q 0)) ?_)
      simp (disch := omega) only [push_cast, Nat.reduceEqDiff]
      exact finIs (by simp) (by rw [decide_eq_false (by omega)]; simp)
    · simp (disch := omega) only [push_cast, Nat.reduceEqDiff]
      exact finIs (by simp) (by rw [decide_eq_true (by omega)]; simp)
  · simp (disch := omega) only [push_cast, Nat.reduceEqDiff]
    refine finIs (by simp) ?_
    unfold opensB
    rw [List.getElem?_eq_none (by omega)]
theorem pdigit_walk (wb w : World) (pb : Nat) (s : List UInt8) (p : Nat) (M : Own) (hs : s.length ≤ 65536) (hp : p ≤ s.length) (hpb : wb.heap.size ≤ pb) (hw : Sy wb (oPs pb s p :: M) w) :
    Calls Tryz.prog 106 #[pPs pb] w (PVR wb pb s M (digAt s p) fun d v K => v = .int .u8 (d : Nat) ∧ d < 16 ∧ K = []) := by
  refine enterB (args := [pPs pb]) Tryz.func106 rfl Tryz.ntmps106 (congrArg Array.toList Tryz.results106) (by kernel_rfl) (by simp) hw ?_
  simp (disch := omega) only [push_cast, Nat.reduceEqDiff]
  refine callV en_102 (callX_is (fun w' hw' => byte_walk w' pb s p (At.of_own hw' mem0 rfl)) ?_)
  simp (disch := omega) only [push_cast, Nat.reduceEqDiff]
  refine callV en_127 (callX_is (fun w' _ => digit_fn w' (s.getD p 0)) ?_)
  simp (disch := omega) only [push_cast, Nat.reduceEqDiff]
  refine drawQT (by kernel_rfl) (by kernel_rfl) mixed (by kernel_rfl) ?_
  simp (disch := omega) only [push_cast, Nat.reduceEqDiff]
  cases hd : digV (s.getD p 0) with
  | none =>
    simp (disch := omega) only [push_cast, Nat.reduceEqDiff, Option.isSome_none, Bool.not_false]
    rw [V_cond]
    simp (disch := omega) only [push_cast, Nat.reduceEqDiff]
    refine ldOne Shp.eq mem0 rfl ?_
    simp (disch := omega) only [push_cast, Nat.reduceEqDiff]
    refine callV en_33 (callX_fail p ?_)
    simp (disch := omega) only [push_cast, Nat.reduceEqDiff]
    refine fun w' hw' => PVR.fall [oPs pb s p] ?_ (fun b hb => by rw [List.mem_singleton.1 hb]; exact hpb) hw'
    unfold digAt
    rcases Nat.lt_or_ge p s.length with h | h
    · rw [getD_at h, Option.bind_some, hd]
    · rw [List.getElem?_eq_none h]; rfl
  | some d =>
    have hlt : p < s.length := by
      rcases Nat.lt_or_ge p s.length with h | h
      · exact h
      · rw [List.getD_eq_getElem?_getD, List.getElem?_eq_none h] at hd
        exact absurd hd (by rw [Option.getD_none, show digV 0 = none from rfl]; simp)
    simp (disch := omega) only [push_cast, Nat.reduceEqDiff, Option.isSome_some, Bool.not_true]
    refine ldOne Shp.eq mem0 rfl ?_
    simp (disch := omega) only [push_cast, Nat.reduceEqDiff]
    refine ldOne Shp.eq mem0 rfl ?_
    simp (disch := omega) only [push_cast, Nat.reduceEqDiff]
    rw [V_cond]
    simp (disch := omega) only [push_cast, Nat.reduceEqDiff]
    refine condX_d (fun h => absurd h (by omega)) (fun _ => ?_)
    simp (disch := omega) only [push_cast, Nat.reduceEqDiff]
    refine ldOne Shp.eq mem0 rfl ?_
    simp (disch := omega) only [push_cast, Nat.reduceEqDiff]
    refine storeX 0 rfl Siz.eq rfl rfl (by simp [Value.oneCell']) (by simp) ?_
    simp (disch := omega) only [push_cast, Nat.reduceEqDiff]
    refine fun w' hw' => PVR.leaf (.int .u8 d) [] (x := d) (q := p + 1) ?_ (by omega) ⟨rfl, digV_lt hd, rfl⟩ (by simp) (by rw [oPs, Int.natCast_add]; simpa [splice] using hw')
    unfold digAt
    rw [getD_at hlt, Option.bind_some, hd]
end Go.Proofs.YtilejcofleeeiaaGreatDoor
namespace Go.Proofs.YtilejcofleeeiaaGreatDoor
open Go Go.K
set_option maxRecDepth 100000
set_option linter.unusedVariables false
set_option linter.unusedSimpArgs false
set_option maxHeartbeats 4000000
structure EsI (w0 : World) (pb : Nat) (s : List UInt8) (p : Nat) (M : Own) (n : Nat) (wb : World) (e : Env) (ds : List Deferred) (L : Own) : Prop where
  hw : wb = w0
  hds : ds = []
  hn : n = 2 ∨ n = 4 ∨ n = 6
  no : ∀ c : UInt8, escP c ≠ [] → (escP c).length < n → ¬ escP c <+: s.drop p
  h0 : e 0 = pPs pb
  h3 : e 3 = i64 n
  o : L = oPs pb s p :: M
structure EsJ (w0 : World) (pb : Nat) (s : List UInt8) (p : Nat) (M : Own) (n : Nat) (k : Nat) (wb : World) (e : Env) (ds : List Deferred) (L : Own) : Prop where
  hw : wb = w0
  hds : ds = []
  hk : k ≤ 128
  no : ∀ c : UInt8, c.toNat < k → escP c ≠ (s.drop p).take n
  h0 : e 0 = pPs pb
  h3 : e 3 = i64 n
  h4 : e 4 = str ((s.drop p).take n)
  h37 : e 37 = i64 k
  o : L = oPs pb s p :: M
def escV (s : List UInt8) (p : Nat) : PV UInt8 := match escR (s.drop p) with
  | none => .no 8 p
  | some (c, n) => .ok c (p + n)
theorem escV_no {s : List UInt8} {p : Nat} (h : ∀ c : UInt8, escP c ≠ [] → ¬ escP c <+: s.drop p) : escV s p = .no 8 p := by
  unfold escV
  cases hr : escR (s.drop p) with
  | none => rfl
  | some x =>
    obtain ⟨c, n⟩ := x
    obtain ⟨h1, h2, _, _⟩ := escR_some hr
    exact absurd h2 (h c h1)
theorem escV_yes {s : List UInt8} {p : Nat} {c : UInt8} {n : Nat} (h0 : 0 < n) (hn : n ≤ (s.drop p).length) (h : escP c = (s.drop p).take n) : escV s p = .ok c (p + n) := by
  have hl : (escP c).length = n := by rw [h, List.length_take]; omega
  have hne : escP c ≠ [] := fun e => by rw [e] at hl; simp at hl; omega
  unfold escV
  rw [escR_yes hne (by rw [h]; exact List.take_prefix _ _), hl]
theorem byte_of {k : Nat} (h : k < 128) : ∃ c : UInt8, c.toNat = k := ⟨UInt8.ofNat k, byte_low k h⟩
theorem escaped_at (w : World) {k : Nat} {c : UInt8} (h : (k : Int) = (c.toNat : Int)) : Calls Tryz.prog 88 #[.int .u8 k] w (Rets w (Is (str (escP c)))) := by
  rw [h]
  exact escaped_walk w c
theorem escape_walk (wb w : World) (pb : Nat) (s : List UInt8) (p : Nat) (M : Own) (hs : s.length ≤ 65536) (hp : p ≤ s.length) (hpb : wb.heap.size ≤ pb) (hw : Sy wb (oPs pb s p :: M) w) :
    Calls Tryz.prog 103 #[pPs pb] w (PVR wb pb s M (escV s p) fun c v K => v = .int .u8 c.toNat ∧ K = []) := by
  refine enterB (args := [pPs pb]) Tryz.func103 rfl Tryz.ntmps103 (congrArg Array.toList Tryz.results103) (by kernel_rfl) (by simp) hw ?_
  simp (disch := omega) only [push_cast, Nat.reduceEqDiff]
  have hld : (s.drop p).length = s.length - p := List.length_drop
  have no : ∀ (h : ∀ c : UInt8, escP c ≠ [] → ¬ escP c <+: s.drop p) (w' : World), Sy wb (oPs pb s p :: M) w' → PVR wb pb s M (escV s p) (fun c v K => v = .int .u8 c.toNat ∧ K = []) (.panicked [wrongE 8 p]) w' := fun h w' hw' =>
    PVR.fall [oPs pb s p] (escV_no h) (fun b hb => by rw [List.mem_singleton.1 hb]; exact hpb) hw'
  rw [V_block]
  simp (disch := omega) only [push_cast, Nat.reduceEqDiff]
  refine loopW (G := Nat) (EsI wb pb s p M) (fun n => 6 - n) 2 _ (fun w hw => hw) (by kernel_rfl) ⟨rfl, rfl, .inl rfl, fun c h1 h2 => by rcases esc_two h1 with h | h <;> omega, rfl, rfl, rfl⟩ ?_
  rintro n wb e ds L ⟨rfl, rfl, hn, hno, h0, h3, rfl⟩
  simp (disch := omega) only [push_cast, Nat.reduceEqDiff, h0, h3]
  rw [V_cond]
  simp (disch := omega) only [push_cast, Nat.reduceEqDiff, h0, h3]
  refine condX_d (fun hle => ?_) (fun hgt => ?_)
  rotate_left
  · simp (disch := omega) only [push_cast, Nat.reduceEqDiff, h0, h3]
    refine ldOne Shp.eq mem0 rfl ?_
    simp (disch := omega) only [push_cast, Nat.reduceEqDiff]
    refine callV en_33 (callX_fail p ?_)
    simp (disch := omega) only [push_cast, Nat.reduceEqDiff]
    exact no fun c h1 h2 => hno c h1 (by rcases esc_two h1 with h | h <;> omega) h2
  simp (disch := omega) only [push_cast, Nat.reduceEqDiff, h0, h3]
  rw [V_block]
  simp (disch := omega) only [push_cast, Nat.reduceEqDiff, h0, h3]
  refine drawQT (by kernel_rfl) (by kernel_rfl) mixed (by kernel_rfl) ?_
  simp (disch := omega) only [push_cast, Nat.reduceEqDiff, h0, h3]
  refine ldOne Shp.eq mem0 rfl ?_
  simp (disch := omega) only [push_cast, Nat.reduceEqDiff, h0, h3]
  refine ldOne Shp.eq mem0 rfl ?_
  simp (disch := omega) only [push_cast, Nat.reduceEqDiff, h0, h3]
  rw [V_cond]
  simp (disch := omega) only [push_cast, Nat.reduceEqDiff, h0, h3]
  refine condX_d (fun hsh => ?_) (fun hen => ?_)
  · simp (disch := omega) only [push_cast, Nat.reduceEqDiff, h0, h3]
    refine ldOne Shp.eq mem0 rfl ?_
    simp (disch := omega) only [push_cast, Nat.reduceEqDiff]
    refine callV en_33 (callX_fail p ?_)
    simp (disch := omega) only [push_cast, Nat.reduceEqDiff]
    refine no fun c h1 h2 => ?_
    rcases Nat.lt_or_ge (escP c).length n with h | h
    · exact hno c h1 h h2
    · have := h2.length_le
      omega
  simp (disch := omega) only [push_cast, Nat.reduceEqDiff, h0, h3]
  refine drawQT (by kernel_rfl) (by kernel_rfl) mixed (by kernel_rfl) ?_
  simp (disch := omega) only [push_cast, Nat.reduceEqDiff, h0, h3]
  refine ldOne Shp.eq mem0 rfl ?_
  simp (disch := omega) only [push_cast, Nat.reduceEqDiff, h0, h3]
  refine ldOne Shp.eq mem0 rfl ?_
  simp (disch := omega) only [push_cast, Nat.reduceEqDiff, h0, h3]
  refine ldOne Shp.eq mem0 rfl ?_
  simp (disch := omega) only [push_cast, Nat.reduceEqDiff, h0, h3, Int.toNat_natCast]
  have hsl : List.drop p (List.take ((p : Int) + n).toNat s) = (s.drop p).take n := by rw [show ((p : Int) + n).toNat = p + n by omega, List.drop_take]; congr 1; omega
  rw [V_block]
  simp (disch := omega) only [push_cast, Nat.reduceEqDiff, h0, h3]
  refine loopW (G := Nat) (EsJ wb pb s p M n) (fun k => 128 - k) 0 _ (fun w hw => hw) (by kernel_rfl) ⟨rfl, rfl, by omega, fun c h => by omega, h0, h3, congrArg str hsl, rfl, rfl⟩ ?_
  clear hw h0 h3 e hsl
  rintro k wb e ds L ⟨rfl, rfl, hk, hno2, h0, h3, h4, h37, rfl⟩
  simp (disch := omega) only [push_cast, Nat.reduceEqDiff, h0, h3, h4, h37]
  rw [V_cond]
  simp (disch := omega) only [push_cast, Nat.reduceEqDiff, h0, h3, h4, h37]
  refine condX_d (fun hlt => ?_) (fun hge => ?_)
  · simp (disch := omega) only [push_cast, Nat.reduceEqDiff, h0, h3, h4, h37]
    rw [V_block]
    simp (disch := omega) only [push_cast, Nat.reduceEqDiff, h0, h3, h4, h37]
    have hk8 : k < 128 := by omega
    refine Exists.elim (byte_of hk8) fun c hc => ?_
    have hci : (k : Int) = (c.toNat : Int) := congrArg (fun n : Nat => (n : Int)) hc.symm
    refine callV en_88 (callX_is (fun w' _ => escaped_at w' hci) ?_)
    simp (disch := omega) only [push_cast, Nat.reduceEqDiff, h0, h3, h4, h37]
    rw [V_cond]
    simp (disch := omega) only [push_cast, Nat.reduceEqDiff, h0, h3, h4, h37]
    refine condX_d (fun he => ?_) (fun hne => ?_)
    · simp (disch := omega) only [push_cast, Nat.reduceEqDiff, h0, h3, h4, h37]
      refine ldOne Shp.eq mem0 rfl ?_
      simp (disch := omega) only [push_cast, Nat.reduceEqDiff, h0, h3, h4, h37]
      refine storeX 0 rfl Siz.eq rfl rfl (by simp [Value.oneCell']) (by simp) ?_
      simp (disch := omega) only [push_cast, Nat.reduceEqDiff, h0, h3, h4, h37]
      refine fun w' hw' => PVR.leaf _ [] (x := c) (q := p + n) (escV_yes (by omega) (by omega) he) (by omega) ⟨?_, rfl⟩ (by simp) (by rw [oPs, Int.natCast_add]; simpa [splice] using hw')
      rw [hci]
    · simp (disch := omega) only [push_cast, Nat.reduceEqDiff, h0, h3, h4, h37]
      refine ⟨k + 1, _, fun w hw => hw, ⟨rfl, rfl, by omega, fun c' h' => ?_, h0, h3, h4, i64_eq (by omega), rfl⟩, by omega⟩
      rcases Nat.lt_or_ge c'.toNat k with h | h
      · exact hno2 c' h
      · rw [show c' = c from UInt8.toNat_inj.1 (by omega)]
        exact hne
  · simp (disch := omega) only [push_cast, Nat.reduceEqDiff, h0, h3, h4, h37]
    refine ⟨n + 2, _, fun w hw => hw, ⟨rfl, rfl, by omega, fun c h1 h2 h3 => ?_, h0, i64_eq (by omega), rfl⟩, by omega⟩
    rcases Nat.lt_or_ge (escP c).length n with h | h
    · exact hno c h1 h h3
    · have hl : (escP c).length = n := by rcases esc_two h1 with h5 | h5 <;> omega
      refine hno2 c (by have := esc_low h1; omega) ?_
      rw [← hl]
      exact (List.prefix_iff_eq_take.1 h3)
end Go.Proofs.YtilejcofleeeiaaGreatDoor
