/- YtgbafmjgfbgeoaaDoor: walks, part 23: two lists of numbers, two faults: the same? -/
import Derived.Test.YtgbafmjgfbgeoaaDoorW8
import Derived.Test.YtgbafmjgfbgeoaaDoorKo
import Derived.Test.YtgbafmjgfbgeoaaDoorKs
namespace Go.Proofs.YtgbafmjgfbgeoaaDoor
open Go Go.K
set_option maxRecDepth 100000
set_option linter.unusedVariables false
set_option linter.unusedSimpArgs false
set_option maxHeartbeats 4000000
/-- A list of numbers, as it can be read. -/
def IntsAt (w : World) (a : Option Addr) (l : List Int) : Prop := l = [] ∨ ∃ b off, a = some ⟨b, off, none⟩ ∧ ∀ i n, l[i]? = some n → At w b (off + i) [i64 n]
structure EqII (w0 : World) (l m : List Int) (a a' : Option Addr) (c c' : Nat) (i : Nat) (wb : World) (e : Env) (ds : List Deferred) (L : Own) : Prop where
  hw : wb = w0
  hds : ds = []
  o : L = []
  il : i ≤ l.length
  n : ∀ j : Nat, j < i → l[j]? = m[j]?
  h0 : e 0 = .slice a l.length c
  h1 : e 1 = .slice a' m.length c'
  h12 : e 12 = i64 l.length
  h13 : e 13 = i64 i
theorem eqInts_walk (w : World) (l m : List Int) (a a' : Option Addr) (c c' : Nat) (hl : IntsAt w a l) (hm : IntsAt w a' m) (hlc : l.length ≤ 9223372036854775807) :
    Calls Tryd.prog 12 #[.slice a l.length c, .slice a' m.length c'] w (Rets w (Is (.bool (decide (l = m))))) := by
  refine enterT (args := [.slice a l.length c, .slice a' m.length c']) Tryd.func12 rfl Tryd.ntmps12 (congrArg Array.toList Tryd.results12) (by kernel_rfl) (by simp) (Sy.refl w) ?_
  simp (disch := omega) only [push_cast, Nat.reduceEqDiff]
  rw [V_cond]
  simp (disch := omega) only [push_cast, Nat.reduceEqDiff]
  refine condX_d (fun hne => ?_) (fun heq => ?_)
  · simp (disch := omega) only [push_cast, Nat.reduceEqDiff]
    exact finIs (by simp) (is_f (fun h => hne (by rw [h])))
  have hlm : l.length = m.length := by omega
  simp (disch := omega) only [push_cast, Nat.reduceEqDiff]
  repeat' (first | ((first | refine guardX_t rfl (fun h => ?_) (fun h => ?_) | refine guardX_f rfl (fun h => ?_) (fun h => ?_) | refine condX_d (fun h => ?_) (fun h => ?_) | (refine guardX_bt rfl (fun h => ?_) (fun h => ?_) <;> (try subst h)) | (refine guardX_bf rfl (fun h => ?_) (fun h => ?_) <;> (try subst h)) | (refine condX_b (fun h => ?_) (fun h => ?_) <;> (try subst h)) | refine ldOne Shp.eq (by (first | exact mem0 | exact mem1 | exact mem2 | exact mem3 | exact mem4 | exact mem5)) rfl ?_ | refine loadX_agg Shp.eq (by (first | exact mem0 | exact mem1 | exact mem2 | exact mem3 | exact mem4 | exact mem5)) rfl rfl ?_ | refine newI (fun b hb hn => ?_) | refine storeX 0 rfl Siz.eq rfl rfl (by simp [Value.oneCell']) (by simp) ?_ | refine storeX 1 rfl Siz.eq rfl rfl (by simp [Value.oneCell']) (by simp) ?_ | refine storeX 2 rfl Siz.eq rfl rfl (by simp [Value.oneCell']) (by simp) ?_ | refine storeX 3 rfl Siz.eq rfl rfl (by simp [Value.oneCell']) (by simp) ?_ | refine storeX 4 rfl Siz.eq rfl rfl (by simp [Value.oneCell']) (by simp) ?_ | refine storeX 5 rfl Siz.eq rfl rfl (by simp [Value.oneCell']) (by simp) ?_ | refine storeX 6 rfl Siz.eq rfl rfl (by simp [Value.oneCell']) (by simp) ?_) <;> simp (disch := omega) only [push_cast, Nat.reduceEqDiff]))
  rw [V_block]
  simp (disch := omega) only [push_cast, Nat.reduceEqDiff]
  refine loopT (G := Nat) (EqII w l m a a' c c') (fun i => l.length - i) 0 (by kernel_rfl) ⟨rfl, rfl, rfl, by omega, by omega, rfl, rfl, rfl, rfl⟩ ?_
  rintro i wb e ds L ⟨rfl, rfl, rfl, hil, hno, h0, h1, h12, h13⟩
  simp (disch := omega) only [push_cast, Nat.reduceEqDiff, h0, h1, h12, h13]
  rw [V_cond]
  simp (disch := omega) only [push_cast, Nat.reduceEqDiff, h0, h1, h12, h13]
  refine condX_d (fun hlt => ?_) (fun hge => ?_)
  · obtain ⟨n, hn⟩ : ∃ n, l[i]? = some n := ⟨_, List.getElem?_eq_getElem (by omega)⟩
    obtain ⟨n', hn'⟩ : ∃ n, m[i]? = some n := ⟨_, List.getElem?_eq_getElem (by omega)⟩
    rcases hl with rfl | ⟨b, off, rfl, hl⟩
    · simp at hn
    rcases hm with rfl | ⟨b', off', rfl, hm⟩
    · simp at hn'
    simp (disch := omega) only [push_cast, Nat.reduceEqDiff, h0, h1, h12, h13]
    rw [V_block]
    simp (disch := omega) only [push_cast, Nat.reduceEqDiff, h0, h1, h12, h13]
    refine drawQT (by kernel_rfl) (by kernel_rfl) mixed (by kernel_rfl) ?_
    simp (disch := omega) only [push_cast, Nat.reduceEqDiff, h0, h1, h12, h13]
    refine ldF sh_3 (by simpa using hl i n hn) (by simp) ?_
    simp (disch := omega) only [push_cast, Nat.reduceEqDiff, h0, h1, h12, h13]
    refine ldF sh_3 (by simpa using hm i n' hn') (by simp) ?_
    simp (disch := omega) only [push_cast, Nat.reduceEqDiff, h0, h1, h12, h13]
    rw [V_cond]
    simp (disch := omega) only [push_cast, Nat.reduceEqDiff, h0, h1, h12, h13]
    refine condX_d (fun hd => ?_) (fun hd => ?_)
    · simp (disch := omega) only [push_cast, Nat.reduceEqDiff, h0, h1, h12, h13]
      exact finIs (by simp) (is_f (fun h => hd (by rw [h, hn'] at hn; cases hn; rfl)))
    · simp (disch := omega) only [push_cast, Nat.reduceEqDiff, h0, h1, h12, h13]
      refine ⟨i + 1, ⟨rfl, rfl, rfl, by omega, fun j hj => ?_, h0, h1, h12, by simp only [upd]; rfl⟩, by omega⟩
      rcases Nat.lt_or_ge j i with h | h
      · exact hno j h
      · obtain rfl : j = i := by omega
        rw [hn, hn', Decidable.not_not.1 hd]
  · simp (disch := omega) only [push_cast, Nat.reduceEqDiff, h0, h1, h12, h13]
    refine finIs (by simp) (is_t ?_)
    apply List.ext_getElem?
    intro j
    rcases Nat.lt_or_ge j l.length with h | h
    · exact hno j (by omega)
    · rw [List.getElem?_eq_none h, List.getElem?_eq_none (by omega)]
end Go.Proofs.YtgbafmjgfbgeoaaDoor
