/- YtilejcofleeeiaaGreatDoor: walks, part 4: a name among others. -/
import Derived.Test.YtilejcofleeeiaaGreatDoorW2
import Derived.Test.YtilejcofleeeiaaGreatDoorKn
namespace Go.Proofs.YtilejcofleeeiaaGreatDoor
open Go Go.K
set_option maxRecDepth 100000
set_option linter.unusedVariables false
set_option linter.unusedSimpArgs false
set_option maxHeartbeats 4000000
/-- Is Nullable as it must be? -/
def nullsB (f : Fld) : Bool := if f.k = 1 then f.nl else if f.k = 18 then !f.nl else if f.k = 20 then f.nl == (f.sub.head?.map Fld.nl).getD false else true
theorem nulls_walk (w : World) (f : Fld) (a : Option Addr) (c : Nat) (hk : f.k = 20 → f.sub ≠ []) (hr : Rd w w.heap.size a f.sub) :
    Calls Tryz.prog 142 #[.agg (f.cells a c).toArray] w (Rets w (Is (.bool (nullsB f)))) := by
  refine enterT (args := [.agg (f.cells a c).toArray]) Tryz.func142 rfl Tryz.ntmps142 (congrArg Array.toList Tryz.results142) (by kernel_rfl) (by simp) (Sy.refl w) ?_
  simp (disch := omega) only [push_cast, Nat.reduceEqDiff, Fld.cells]
  repeat' (first | ((first | refine guardX_t rfl (fun h => ?_) (fun h => ?_) | refine guardX_f rfl (fun h => ?_) (fun h => ?_) | refine condX_d (fun h => ?_) (fun h => ?_) | (refine guardX_bt rfl (fun h => ?_) (fun h => ?_) <;> (try subst h)) | (refine guardX_bf rfl (fun h => ?_) (fun h => ?_) <;> (try subst h)) | (refine condX_b (fun h => ?_) (fun h => ?_) <;> (try subst h)) | refine ldOne Shp.eq (by (first | exact mem0 | exact mem1 | exact mem2 | exact mem3 | exact mem4 | exact mem5)) rfl ?_ | refine loadX_agg Shp.eq (by (first | exact mem0 | exact mem1 | exact mem2 | exact mem3 | exact mem4 | exact mem5)) rfl rfl ?_ | refine newI (fun b hb hn => ?_) | refine storeX 0 rfl Siz.eq rfl rfl (by simp [Value.oneCell']) (by simp) ?_ | refine storeX 1 rfl Siz.eq rfl rfl (by simp [Value.oneCell']) (by simp) ?_ | refine storeX 2 rfl Siz.eq rfl rfl (by simp [Value.oneCell']) (by simp) ?_ | refine storeX 3 rfl Siz.eq rfl rfl (by simp [Value.oneCell']) (by simp) ?_ | refine storeX 4 rfl Siz.eq rfl rfl (by simp [Value.oneCell']) (by simp) ?_ | refine storeX 5 rfl Siz.eq rfl rfl (by simp [Value.oneCell']) (by simp) ?_ | refine storeX 6 rfl Siz.eq rfl rfl (by simp [Value.oneCell']) (by simp) ?_) <;> simp (disch := omega) only [push_cast, Nat.reduceEqDiff]) | (first | rw [V_cond] | rw [V_block]) <;> (try simp (disch := omega) only [push_cast, Nat.reduceEqDiff]))
  case refine_2.refine_2.refine_1 =>
    rename_i h2 h
    obtain ⟨g, l, hl⟩ : ∃ g l, f.sub = g :: l := List.exists_cons_of_ne_nil (hk h)
    have hlen : 0 < f.sub.length := by rw [hl]; simp
    rw [hl] at hr
    obtain ⟨b', off, rfl, hb'⟩ := hr.some_of
    obtain ⟨a', c', x1, x2, x3⟩ := hr.get 0 rfl
    refine drawQT (by kernel_rfl) (by kernel_rfl) mixed (by kernel_rfl) ?_
    simp (disch := omega) only [push_cast, Nat.reduceEqDiff]
    repeat' (first | ((first | refine guardX_t rfl (fun h => ?_) (fun h => ?_) | refine guardX_f rfl (fun h => ?_) (fun h => ?_) | refine condX_d (fun h => ?_) (fun h => ?_) | (refine guardX_bt rfl (fun h => ?_) (fun h => ?_) <;> (try subst h)) | (refine guardX_bf rfl (fun h => ?_) (fun h => ?_) <;> (try subst h)) | (refine condX_b (fun h => ?_) (fun h => ?_) <;> (try subst h)) | refine ldOne Shp.eq (by (first | exact mem0 | exact mem1 | exact mem2 | exact mem3 | exact mem4 | exact mem5)) rfl ?_ | refine loadX_agg Shp.eq (by (first | exact mem0 | exact mem1 | exact mem2 | exact mem3 | exact mem4 | exact mem5)) rfl rfl ?_ | refine newI (fun b hb hn => ?_) | refine storeX 0 rfl Siz.eq rfl rfl (by simp [Value.oneCell']) (by simp) ?_ | refine storeX 1 rfl Siz.eq rfl rfl (by simp [Value.oneCell']) (by simp) ?_ | refine storeX 2 rfl Siz.eq rfl rfl (by simp [Value.oneCell']) (by simp) ?_ | refine storeX 3 rfl Siz.eq rfl rfl (by simp [Value.oneCell']) (by simp) ?_ | refine storeX 4 rfl Siz.eq rfl rfl (by simp [Value.oneCell']) (by simp) ?_ | refine storeX 5 rfl Siz.eq rfl rfl (by simp [Value.oneCell']) (by simp) ?_ | refine storeX 6 rfl Siz.eq rfl rfl (by simp [Value.oneCell']) (by simp) ?_) <;> simp (disch := omega) only [push_cast, Nat.reduceEqDiff]) | (first | rw [V_cond] | rw [V_block]) <;> (try simp (disch := omega) only [push_cast, Nat.reduceEqDiff]))
    refine ldF (by exact sh_4) (x2.sub 1 [.bool g.nl] rfl) (out_of (by simp only [List.mem_singleton]; rintro p rfl; simp only; omega)) ?_
    simp (disch := omega) only [push_cast, Nat.reduceEqDiff]
    refine fun w' hw => ⟨_, rfl, hw.drop (List.nil_sublist _) (fun p hp => .inr (by simp at hp; rw [hp]; assumption)), ?_⟩
    simp only [Is, nullsB, h, hl, h2, if_true, if_false]
    rfl
  all_goals (refine fun w' hw => ⟨_, rfl, hw.drop (List.nil_sublist _) (fun p hp => .inr (by simp at hp; rw [hp]; assumption)), ?_⟩)
  all_goals simp only [Is, nullsB, if_true, if_false, *]
  all_goals simp
end Go.Proofs.YtilejcofleeeiaaGreatDoor
namespace Go.Proofs.YtilejcofleeeiaaGreatDoor
open Go Go.K
set_option maxRecDepth 100000
set_option linter.unusedVariables false
set_option linter.unusedSimpArgs false
set_option maxHeartbeats 4000000
theorem wrong1_walk (w : World) (f : Fld) (a : Option Addr) (c : Nat) (bp : Nat) (nm : List UInt8) (h : At w bp 2 [str nm]) :
    Calls Tryz.prog 140 #[.agg (f.cells a c).toArray, .pointer (some ⟨bp, 0, none⟩)] w (Rets w (Is (.bool (decide (f.nm = nm))))) := by
  refine enterT (args := [.agg (f.cells a c).toArray, .pointer (some ⟨bp, 0, none⟩)]) Tryz.func140 rfl Tryz.ntmps140 (congrArg Array.toList Tryz.results140) (by kernel_rfl) (by simp) (Sy.refl w) ?_
  have hlt := h.lt
  simp (disch := omega) only [push_cast, Nat.reduceEqDiff, Fld.cells]
  repeat' (first | ((first | refine guardX_t rfl (fun h => ?_) (fun h => ?_) | refine guardX_f rfl (fun h => ?_) (fun h => ?_) | refine condX_d (fun h => ?_) (fun h => ?_) | (refine guardX_bt rfl (fun h => ?_) (fun h => ?_) <;> (try subst h)) | (refine guardX_bf rfl (fun h => ?_) (fun h => ?_) <;> (try subst h)) | (refine condX_b (fun h => ?_) (fun h => ?_) <;> (try subst h)) | refine ldOne Shp.eq (by (first | exact mem0 | exact mem1 | exact mem2 | exact mem3 | exact mem4 | exact mem5)) rfl ?_ | refine loadX_agg Shp.eq (by (first | exact mem0 | exact mem1 | exact mem2 | exact mem3 | exact mem4 | exact mem5)) rfl rfl ?_ | refine newI (fun b hb hn => ?_) | refine storeX 0 rfl Siz.eq rfl rfl (by simp [Value.oneCell']) (by simp) ?_ | refine storeX 1 rfl Siz.eq rfl rfl (by simp [Value.oneCell']) (by simp) ?_ | refine storeX 2 rfl Siz.eq rfl rfl (by simp [Value.oneCell']) (by simp) ?_ | refine storeX 3 rfl Siz.eq rfl rfl (by simp [Value.oneCell']) (by simp) ?_ | refine storeX 4 rfl Siz.eq rfl rfl (by simp [Value.oneCell']) (by simp) ?_ | refine storeX 5 rfl Siz.eq rfl rfl (by simp [Value.oneCell']) (by simp) ?_ | refine storeX 6 rfl Siz.eq rfl rfl (by simp [Value.oneCell']) (by simp) ?_) <;> simp (disch := omega) only [push_cast, Nat.reduceEqDiff]) | (first | rw [V_cond] | rw [V_block]) <;> (try simp (disch := omega) only [push_cast, Nat.reduceEqDiff]))
  refine ldF (by exact sh_9) h (out_of (by simp only [List.mem_singleton]; rintro p rfl; simp only; omega)) ?_
  simp (disch := omega) only [push_cast, Nat.reduceEqDiff]
  exact finIs (by simp only [List.mem_singleton]; rintro p rfl; assumption) rfl
structure IndexI (w0 : World) (l : List Fld) (a : Option Addr) (c : Nat) (fv : Value) (p : Fld → Bool) (k : Nat) (wb : World) (e : Env) (ds : List Deferred) (L : Own) : Prop where
  hw : wb = w0
  d : ds = []
  o : L = []
  kl : k ≤ l.length
  n : ∀ j g, j < k → l[j]? = some g → p g = false
  h0 : e 0 = .slice a l.length c
  h1 : e 1 = fv
  h7 : e 7 = i64 l.length
  h8 : e 8 = i64 k
theorem indexFunc_walk (w : World) (lo : Nat) (l : List Fld) (a : Option Addr) (c : Nat) (hr : Rd w lo a l) (hlo : lo ≤ w.heap.size) (hc : l.length ≤ c) (hc2 : c ≤ 9223372036854775807) (g : FuncId) (cap : Array Value) (p : Fld → Bool) (hen : entersB Tryz.prog g = true)
    (hg : ∀ w', Sy w [] w' → ∀ f a c, f ∈ l → Calls Tryz.prog g (#[.agg (f.cells a c).toArray] ++ cap) w' (Rets w' (Is (.bool (p f))))) :
    Calls Tryz.prog 161 #[.slice a l.length c, .func (.func g) #[] cap] w (Rets w (Is (i64 (idxF p l)))) := by
  refine enterT (args := [.slice a l.length c, .func (.func g) #[] cap]) Tryz.func161 rfl Tryz.ntmps161 (congrArg Array.toList Tryz.results161) (by kernel_rfl) (by simp) (Sy.refl w) ?_
  simp (disch := omega) only [push_cast, Nat.reduceEqDiff]
  repeat' (first | ((first | refine guardX_t rfl (fun h => ?_) (fun h => ?_) | refine guardX_f rfl (fun h => ?_) (fun h => ?_) | refine condX_d (fun h => ?_) (fun h => ?_) | (refine guardX_bt rfl (fun h => ?_) (fun h => ?_) <;> (try subst h)) | (refine guardX_bf rfl (fun h => ?_) (fun h => ?_) <;> (try subst h)) | (refine condX_b (fun h => ?_) (fun h => ?_) <;> (try subst h)) | refine ldOne Shp.eq (by (first | exact mem0 | exact mem1 | exact mem2 | exact mem3 | exact mem4 | exact mem5)) rfl ?_ | refine loadX_agg Shp.eq (by (first | exact mem0 | exact mem1 | exact mem2 | exact mem3 | exact mem4 | exact mem5)) rfl rfl ?_ | refine newI (fun b hb hn => ?_) | refine storeX 0 rfl Siz.eq rfl rfl (by simp [Value.oneCell']) (by simp) ?_ | refine storeX 1 rfl Siz.eq rfl rfl (by simp [Value.oneCell']) (by simp) ?_ | refine storeX 2 rfl Siz.eq rfl rfl (by simp [Value.oneCell']) (by simp) ?_ | refine storeX 3 rfl Siz.eq rfl rfl (by simp [Value.oneCell']) (by simp) ?_ | refine storeX 4 rfl Siz.eq rfl rfl (by simp [Value.oneCell']) (by simp) ?_ | refine storeX 5 rfl Siz.eq rfl rfl (by simp [Value.oneCell']) (by simp) ?_ | refine storeX 6 rfl Siz.eq rfl rfl (by simp [Value.oneCell']) (by simp) ?_) <;> simp (disch := omega) only [push_cast, Nat.reduceEqDiff]) | (first | rw [V_cond] | rw [V_block]) <;> (try simp (disch := omega) only [push_cast, Nat.reduceEqDiff]))
  refine loopT (G := Nat) (IndexI w l a c (.func (.func g) #[] cap) p) (fun k => l.length - k) 0 (by kernel_rfl) ⟨rfl, rfl, rfl, by omega, fun j g h => by omega, rfl, rfl, rfl, rfl⟩ ?_
  rintro k wb e ds L ⟨rfl, rfl, rfl, hk, hn, h0, h1, h7, h8⟩
  simp (disch := omega) only [push_cast, Nat.reduceEqDiff, h0, h1, h7, h8]
  rw [V_cond]
  simp (disch := omega) only [push_cast, Nat.reduceEqDiff, h0, h1, h7, h8]
  refine condX_d (fun hlt => ?_) (fun hge => ?_)
  · obtain ⟨f, hf⟩ : ∃ f, l[k]? = some f := ⟨_, List.getElem?_eq_getElem (by omega)⟩
    have hfm : f ∈ l := List.mem_of_getElem? hf
    obtain ⟨f0, l0, rfl⟩ : ∃ f l', l = f :: l' := List.exists_cons_of_ne_nil (by rintro rfl; simp at hf)
    obtain ⟨b, off, rfl, hb⟩ := hr.some_of
    obtain ⟨a', c', x1, x2, x3⟩ := hr.get k hf
    simp (disch := omega) only [push_cast, Nat.reduceEqDiff, h0, h1, h7, h8]
    repeat' (first | ((first | refine guardX_t rfl (fun h => ?_) (fun h => ?_) | refine guardX_f rfl (fun h => ?_) (fun h => ?_) | refine condX_d (fun h => ?_) (fun h => ?_) | (refine guardX_bt rfl (fun h => ?_) (fun h => ?_) <;> (try subst h)) | (refine guardX_bf rfl (fun h => ?_) (fun h => ?_) <;> (try subst h)) | (refine condX_b (fun h => ?_) (fun h => ?_) <;> (try subst h)) | refine ldOne Shp.eq (by (first | exact mem0 | exact mem1 | exact mem2 | exact mem3 | exact mem4 | exact mem5)) rfl ?_ | refine loadX_agg Shp.eq (by (first | exact mem0 | exact mem1 | exact mem2 | exact mem3 | exact mem4 | exact mem5)) rfl rfl ?_ | refine newI (fun b hb hn => ?_) | refine storeX 0 rfl Siz.eq rfl rfl (by simp [Value.oneCell']) (by simp) ?_ | refine storeX 1 rfl Siz.eq rfl rfl (by simp [Value.oneCell']) (by simp) ?_ | refine storeX 2 rfl Siz.eq rfl rfl (by simp [Value.oneCell']) (by simp) ?_ | refine storeX 3 rfl Siz.eq rfl rfl (by simp [Value.oneCell']) (by simp) ?_ | refine storeX 4 rfl Siz.eq rfl rfl (by simp [Value.oneCell']) (by simp) ?_ | refine storeX 5 rfl Siz.eq rfl rfl (by simp [Value.oneCell']) (by simp) ?_ | refine storeX 6 rfl Siz.eq rfl rfl (by simp [Value.oneCell']) (by simp) ?_) <;> simp (disch := omega) only [push_cast, Nat.reduceEqDiff, h0, h1, h7, h8]) | (first | rw [V_cond] | rw [V_block]) <;> (try simp (disch := omega) only [push_cast, Nat.reduceEqDiff, h0, h1, h7, h8]))
    refine ldAggF sh_26 x2 rfl (by simp) ?_
    simp (disch := omega) only [push_cast, Nat.reduceEqDiff, h0, h1, h7, h8]
    refine callVc hen (callX_is (fun w hw => hg w hw f a' c' hfm) ?_)
    simp (disch := omega) only [push_cast, Nat.reduceEqDiff, h0, h1, h7, h8]
    repeat' (first | ((first | refine guardX_t rfl (fun h => ?_) (fun h => ?_) | refine guardX_f rfl (fun h => ?_) (fun h => ?_) | refine condX_d (fun h => ?_) (fun h => ?_) | (refine guardX_bt rfl (fun h => ?_) (fun h => ?_) <;> (try subst h)) | (refine guardX_bf rfl (fun h => ?_) (fun h => ?_) <;> (try subst h)) | (refine condX_b (fun h => ?_) (fun h => ?_) <;> (try subst h)) | refine ldOne Shp.eq (by (first | exact mem0 | exact mem1 | exact mem2 | exact mem3 | exact mem4 | exact mem5)) rfl ?_ | refine loadX_agg Shp.eq (by (first | exact mem0 | exact mem1 | exact mem2 | exact mem3 | exact mem4 | exact mem5)) rfl rfl ?_ | refine newI (fun b hb hn => ?_) | refine storeX 0 rfl Siz.eq rfl rfl (by simp [Value.oneCell']) (by simp) ?_ | refine storeX 1 rfl Siz.eq rfl rfl (by simp [Value.oneCell']) (by simp) ?_ | refine storeX 2 rfl Siz.eq rfl rfl (by simp [Value.oneCell']) (by simp) ?_ | refine storeX 3 rfl Siz.eq rfl rfl (by simp [Value.oneCell']) (by simp) ?_ | refine storeX 4 rfl Siz.eq rfl rfl (by simp [Value.oneCell']) (by simp) ?_ | refine storeX 5 rfl Siz.eq rfl rfl (by simp [Value.oneCell']) (by simp) ?_ | refine storeX 6 rfl Siz.eq rfl rfl (by simp [Value.oneCell']) (by simp) ?_) <;> simp (disch := omega) only [push_cast, Nat.reduceEqDiff, h0, h1, h7, h8]) | (first | rw [V_cond] | rw [V_block]) <;> (try simp (disch := omega) only [push_cast, Nat.reduceEqDiff, h0, h1, h7, h8]))
    · exact finIs (by simp) (i64_eq (idxF_at hn hf h).symm)
    · have hp := h
      refine ⟨k + 1, ⟨rfl, rfl, rfl, by omega, fun j g hj hg => ?_, h0, h1, h7, ?_⟩, by
        show (f0 :: l0).length - (k + 1) < (f0 :: l0).length - k
        have : k < (f0 :: l0).length := by omega
        omega⟩
      · rcases Nat.lt_or_ge j k with h | h
        · exact hn j g h hg
        · obtain rfl : j = k := by omega
          rw [hf] at hg
          cases hg
          exact hp
      · simp only [upd]; rfl
  · obtain rfl : k = l.length := by omega
    simp (disch := omega) only [push_cast, Nat.reduceEqDiff, h0, h1, h7, h8]
    repeat' (first | ((first | refine guardX_t rfl (fun h => ?_) (fun h => ?_) | refine guardX_f rfl (fun h => ?_) (fun h => ?_) | refine condX_d (fun h => ?_) (fun h => ?_) | (refine guardX_bt rfl (fun h => ?_) (fun h => ?_) <;> (try subst h)) | (refine guardX_bf rfl (fun h => ?_) (fun h => ?_) <;> (try subst h)) | (refine condX_b (fun h => ?_) (fun h => ?_) <;> (try subst h)) | refine ldOne Shp.eq (by (first | exact mem0 | exact mem1 | exact mem2 | exact mem3 | exact mem4 | exact mem5)) rfl ?_ | refine loadX_agg Shp.eq (by (first | exact mem0 | exact mem1 | exact mem2 | exact mem3 | exact mem4 | exact mem5)) rfl rfl ?_ | refine newI (fun b hb hn => ?_) | refine storeX 0 rfl Siz.eq rfl rfl (by simp [Value.oneCell']) (by simp) ?_ | refine storeX 1 rfl Siz.eq rfl rfl (by simp [Value.oneCell']) (by simp) ?_ | refine storeX 2 rfl Siz.eq rfl rfl (by simp [Value.oneCell']) (by simp) ?_ | refine storeX 3 rfl Siz.eq rfl rfl (by simp [Value.oneCell']) (by simp) ?_ | refine storeX 4 rfl Siz.eq rfl rfl (by simp [Value.oneCell']) (by simp) ?_ | refine storeX 5 rfl Siz.eq rfl rfl (by simp [Value.oneCell']) (by simp) ?_ | refine storeX 6 rfl Siz.eq rfl rfl (by simp [Value.oneCell']) (by simp) ?_) <;> simp (disch := omega) only [push_cast, Nat.reduceEqDiff, h0, h1, h7, h8]) | (first | rw [V_cond] | rw [V_block]) <;> (try simp (disch := omega) only [push_cast, Nat.reduceEqDiff, h0, h1, h7, h8]))
    exact finIs (by simp) (i64_eq (idxF_none hn).symm)
theorem containsFunc_walk (w : World) (lo : Nat) (l : List Fld) (a : Option Addr) (c : Nat) (hr : Rd w lo a l) (hlo : lo ≤ w.heap.size) (hc : l.length ≤ c) (hc2 : c ≤ 9223372036854775807) (g : FuncId) (cap : Array Value) (p : Fld → Bool) (hen : entersB Tryz.prog g = true)
    (hg : ∀ w', Sy w [] w' → ∀ f a c, f ∈ l → Calls Tryz.prog g (#[.agg (f.cells a c).toArray] ++ cap) w' (Rets w' (Is (.bool (p f))))) :
    Calls Tryz.prog 139 #[.slice a l.length c, .func (.func g) #[] cap] w (Rets w (Is (.bool (l.any p)))) := by
  refine enterT (args := [.slice a l.length c, .func (.func g) #[] cap]) Tryz.func139 rfl Tryz.ntmps139 (congrArg Array.toList Tryz.results139) (by kernel_rfl) (by simp) (Sy.refl w) ?_
  simp (disch := omega) only [push_cast, Nat.reduceEqDiff]
  refine callV en_161 (callX_is (fun w' hw => indexFunc_walk w' lo l a c (hr.sy hlo hw (by simp)) (Nat.le_trans hlo hw.size) hc hc2 g cap p hen (fun w'' h'' => hg w'' (hw.frame h''))) ?_)
  simp (disch := omega) only [push_cast, Nat.reduceEqDiff]
  refine finIs (by simp) (bool_iff ?_)
  rw [decide_eq_true_iff]
  exact idxF_any p l
end Go.Proofs.YtilejcofleeeiaaGreatDoor
