/- YtilejcofleeeiaaGreatDoor: walks, part 5: what is wrong with a field. -/
import Derived.Test.YtilejcofleeeiaaGreatDoorW4
import Derived.Test.YtilejcofleeeiaaGreatDoorKn
namespace Go.Proofs.YtilejcofleeeiaaGreatDoor
open Go Go.K
set_option maxRecDepth 100000
set_option linter.unusedVariables false
set_option linter.unusedSimpArgs false
set_option maxHeartbeats 4000000
instance (l : List UInt8) : Decidable (isName l) := by unfold isName; infer_instance
def firstNl (f : Fld) : Bool := (f.sub.head?.map Fld.nl).getD false
abbrev shapedF (f : Fld) : Prop := shapedP f.k f.wd f.id f.ix f.sub.length
/-- What is wrong with a field on a way of so many steps, behind these of its list, within a dictionary or not, the k-th, behind dictionaries of these numbers. -/
def wrongN (pl : Nat) (ah : List Fld) (f : Fld) (ind : Bool) (k : Int) (S : List Int) : Int :=
  if 64 < pl then 33 else if 256 ≤ k then 34 else if ¬ isName f.nm then 30 else if ah.any (fun g => decide (g.nm = f.nm)) = true then 31
  else if ¬ shapedF f then 32 else if nullsB f = false then 35
  else if ind = true ∧ (f.k = 19 ∨ f.k = 20) then 36 else if f.k = 19 ∧ (firstNl f = true ∨ f.id ∈ S) then 36 else 0
def placeV (pa : Option Addr) (pl pc : Nat) (aa : Option Addr) (an ac : Nat) (f : Fld) (a : Option Addr) (c : Nat) (ind : Bool) : Value :=
  .agg #[.slice pa pl pc, .slice aa an ac, str f.nm, .bool f.nl, i64 f.k, i64 f.wd, i64 f.id, i64 f.ix, .slice a f.sub.length c, .bool ind]
theorem wrong_walk (w : World) (hs : SaysAt w) (lo : Nat) (hlo : lo ≤ w.heap.size) (pa : Option Addr) (pl pc : Nat) (aa : Option Addr) (ah : List Fld) (ac : Nat) (hah : Rd w lo aa ah) (hac : ah.length ≤ ac) (hac2 : ac ≤ 9223372036854775807)
    (f : Fld) (a : Option Addr) (c : Nat) (hf : Rd w lo a f.sub) (hfc : f.sub.length ≤ c) (hfn : f.nm.length ≤ 9223372036854775807) (ind : Bool) (k : Int) (m clock : Nat) (es : Array MapEntry) (S : List Int) (hm : w.heap[m]? = some (.map es clock)) (hS : KeysOf es S) :
    Calls Tryz.prog 113 #[placeV pa pl pc aa ah.length ac f a c ind, i64 k, .map (some m)] w (Rets w (Is (i64 (wrongN pl ah f ind k S)))) := by
  refine enterT (args := [placeV pa pl pc aa ah.length ac f a c ind, i64 k, .map (some m)]) Tryz.func113 rfl Tryz.ntmps113 (congrArg Array.toList Tryz.results113) (by kernel_rfl) (by simp) (Sy.refl w) ?_
  have hmlt : m < w.heap.size := (Array.getElem?_eq_some_iff.1 hm).1
  simp (disch := omega) only [push_cast, Nat.reduceEqDiff, placeV]
  repeat' (first | ((first | refine guardX_t rfl (fun h => ?_) (fun h => ?_) | refine guardX_f rfl (fun h => ?_) (fun h => ?_) | refine condX_d (fun h => ?_) (fun h => ?_) | (refine guardX_bt rfl (fun h => ?_) (fun h => ?_) <;> (try subst h)) | (refine guardX_bf rfl (fun h => ?_) (fun h => ?_) <;> (try subst h)) | (refine condX_b (fun h => ?_) (fun h => ?_) <;> (try subst h)) | refine ldOne Shp.eq (by (first | exact mem0 | exact mem1 | exact mem2 | exact mem3 | exact mem4 | exact mem5)) rfl ?_ | refine loadX_agg Shp.eq (by (first | exact mem0 | exact mem1 | exact mem2 | exact mem3 | exact mem4 | exact mem5)) rfl rfl ?_ | refine newI (fun b hb hn => ?_) | refine storeX 0 rfl Siz.eq rfl rfl (by simp [Value.oneCell']) (by simp) ?_ | refine storeX 1 rfl Siz.eq rfl rfl (by simp [Value.oneCell']) (by simp) ?_ | refine storeX 2 rfl Siz.eq rfl rfl (by simp [Value.oneCell']) (by simp) ?_ | refine storeX 3 rfl Siz.eq rfl rfl (by simp [Value.oneCell']) (by simp) ?_ | refine storeX 4 rfl Siz.eq rfl rfl (by simp [Value.oneCell']) (by simp) ?_ | refine storeX 5 rfl Siz.eq rfl rfl (by simp [Value.oneCell']) (by simp) ?_ | refine storeX 6 rfl Siz.eq rfl rfl (by simp [Value.oneCell']) (by simp) ?_) <;> simp (disch := omega) only [push_cast, Nat.reduceEqDiff]))
  rename_i bp hbp hnp
  have hL : ∀ p ∈ [(b, Obj.cells #[i64 f.k, i64 f.wd, i64 f.id, i64 f.ix, .slice a f.sub.length c] 24 (0, 0)), (bp, Obj.cells #[.slice pa pl pc, .slice aa ah.length ac, str f.nm, .bool f.nl, i64 f.k, i64 f.wd, i64 f.id, i64 f.ix, .slice a f.sub.length c, .bool ind] 145 (0, 0))], w.heap.size ≤ p.1 := by
    simp only [List.mem_cons, List.mem_nil_iff, or_false]
    rintro p (rfl | rfl) <;> assumption
  refine lookupX Tryz.underlying140 Tryz.underlying3 Tryz.zeroValue3 (fun w' hw' => (hw'.rest m hmlt (out_of fun p hp => Nat.lt_of_lt_of_le hmlt (hL p hp))).trans hm) hS (fun v => ?_)
  simp (disch := omega) only [push_cast, Nat.reduceEqDiff]
  rw [V_block]
  simp (disch := omega) only [push_cast, Nat.reduceEqDiff]
  repeat' (first | ((first | refine guardX_t rfl (fun h => ?_) (fun h => ?_) | refine guardX_f rfl (fun h => ?_) (fun h => ?_) | refine condX_d (fun h => ?_) (fun h => ?_) | (refine guardX_bt rfl (fun h => ?_) (fun h => ?_) <;> (try subst h)) | (refine guardX_bf rfl (fun h => ?_) (fun h => ?_) <;> (try subst h)) | (refine condX_b (fun h => ?_) (fun h => ?_) <;> (try subst h)) | refine ldOne Shp.eq (by (first | exact mem0 | exact mem1 | exact mem2 | exact mem3 | exact mem4 | exact mem5)) rfl ?_ | refine loadX_agg Shp.eq (by (first | exact mem0 | exact mem1 | exact mem2 | exact mem3 | exact mem4 | exact mem5)) rfl rfl ?_ | refine newI (fun b hb hn => ?_) | refine storeX 0 rfl Siz.eq rfl rfl (by simp [Value.oneCell']) (by simp) ?_ | refine storeX 1 rfl Siz.eq rfl rfl (by simp [Value.oneCell']) (by simp) ?_ | refine storeX 2 rfl Siz.eq rfl rfl (by simp [Value.oneCell']) (by simp) ?_ | refine storeX 3 rfl Siz.eq rfl rfl (by simp [Value.oneCell']) (by simp) ?_ | refine storeX 4 rfl Siz.eq rfl rfl (by simp [Value.oneCell']) (by simp) ?_ | refine storeX 5 rfl Siz.eq rfl rfl (by simp [Value.oneCell']) (by simp) ?_ | refine storeX 6 rfl Siz.eq rfl rfl (by simp [Value.oneCell']) (by simp) ?_) <;> simp (disch := omega) only [push_cast, Nat.reduceEqDiff]))
  rw [V_cond]
  simp (disch := omega) only [push_cast, Nat.reduceEqDiff]
  refine condX_d (fun c1 => ?_) (fun c1 => ?_)
  · simp (disch := omega) only [push_cast, Nat.reduceEqDiff]
    exact finIs hL (i64_eq (by unfold wrongN; rw [if_pos (by omega)]))
  simp (disch := omega) only [push_cast, Nat.reduceEqDiff]
  rw [V_cond]
  simp (disch := omega) only [push_cast, Nat.reduceEqDiff]
  refine condX_d (fun c2 => ?_) (fun c2 => ?_)
  · simp (disch := omega) only [push_cast, Nat.reduceEqDiff]
    exact finIs hL (i64_eq (by unfold wrongN; rw [if_neg (by omega), if_pos (by omega)]))
  simp (disch := omega) only [push_cast, Nat.reduceEqDiff]
  repeat' (first | ((first | refine guardX_t rfl (fun h => ?_) (fun h => ?_) | refine guardX_f rfl (fun h => ?_) (fun h => ?_) | refine condX_d (fun h => ?_) (fun h => ?_) | (refine guardX_bt rfl (fun h => ?_) (fun h => ?_) <;> (try subst h)) | (refine guardX_bf rfl (fun h => ?_) (fun h => ?_) <;> (try subst h)) | (refine condX_b (fun h => ?_) (fun h => ?_) <;> (try subst h)) | refine ldOne Shp.eq (by (first | exact mem0 | exact mem1 | exact mem2 | exact mem3 | exact mem4 | exact mem5)) rfl ?_ | refine loadX_agg Shp.eq (by (first | exact mem0 | exact mem1 | exact mem2 | exact mem3 | exact mem4 | exact mem5)) rfl rfl ?_ | refine newI (fun b hb hn => ?_) | refine storeX 0 rfl Siz.eq rfl rfl (by simp [Value.oneCell']) (by simp) ?_ | refine storeX 1 rfl Siz.eq rfl rfl (by simp [Value.oneCell']) (by simp) ?_ | refine storeX 2 rfl Siz.eq rfl rfl (by simp [Value.oneCell']) (by simp) ?_ | refine storeX 3 rfl Siz.eq rfl rfl (by simp [Value.oneCell']) (by simp) ?_ | refine storeX 4 rfl Siz.eq rfl rfl (by simp [Value.oneCell']) (by simp) ?_ | refine storeX 5 rfl Siz.eq rfl rfl (by simp [Value.oneCell']) (by simp) ?_ | refine storeX 6 rfl Siz.eq rfl rfl (by simp [Value.oneCell']) (by simp) ?_) <;> simp (disch := omega) only [push_cast, Nat.reduceEqDiff]))
  refine callV en_138 (callX_ex (fun w _ => named_walk w f.nm hfn) (fun v ⟨nb, hv, hnb⟩ => ?_))
  subst hv
  simp (disch := omega) only [push_cast, Nat.reduceEqDiff]
  rw [V_cond]
  simp (disch := omega) only [push_cast, Nat.reduceEqDiff]
  refine condX_b (fun c3 => ?_) (fun c3 => ?_)
  · simp (disch := omega) only [push_cast, Nat.reduceEqDiff]
    have c3' : ¬ isName f.nm := fun h => by rw [hnb.2 h] at c3; cases c3
    exact finIs hL (i64_eq (by unfold wrongN; rw [if_neg (by omega), if_neg (by omega), if_pos c3']))
  have c3' : isName f.nm := hnb.1 (by simpa using c3)
  simp (disch := omega) only [push_cast, Nat.reduceEqDiff]
  repeat' (first | ((first | refine guardX_t rfl (fun h => ?_) (fun h => ?_) | refine guardX_f rfl (fun h => ?_) (fun h => ?_) | refine condX_d (fun h => ?_) (fun h => ?_) | (refine guardX_bt rfl (fun h => ?_) (fun h => ?_) <;> (try subst h)) | (refine guardX_bf rfl (fun h => ?_) (fun h => ?_) <;> (try subst h)) | (refine condX_b (fun h => ?_) (fun h => ?_) <;> (try subst h)) | refine ldOne Shp.eq (by (first | exact mem0 | exact mem1 | exact mem2 | exact mem3 | exact mem4 | exact mem5)) rfl ?_ | refine loadX_agg Shp.eq (by (first | exact mem0 | exact mem1 | exact mem2 | exact mem3 | exact mem4 | exact mem5)) rfl rfl ?_ | refine newI (fun b hb hn => ?_) | refine storeX 0 rfl Siz.eq rfl rfl (by simp [Value.oneCell']) (by simp) ?_ | refine storeX 1 rfl Siz.eq rfl rfl (by simp [Value.oneCell']) (by simp) ?_ | refine storeX 2 rfl Siz.eq rfl rfl (by simp [Value.oneCell']) (by simp) ?_ | refine storeX 3 rfl Siz.eq rfl rfl (by simp [Value.oneCell']) (by simp) ?_ | refine storeX 4 rfl Siz.eq rfl rfl (by simp [Value.oneCell']) (by simp) ?_ | refine storeX 5 rfl Siz.eq rfl rfl (by simp [Value.oneCell']) (by simp) ?_ | refine storeX 6 rfl Siz.eq rfl rfl (by simp [Value.oneCell']) (by simp) ?_) <;> simp (disch := omega) only [push_cast, Nat.reduceEqDiff]))
  refine callV en_139 (callX_is (fun w' hw' => containsFunc_walk w' lo ah aa ac (hah.sy hlo hw' (fun p hp => Nat.le_trans hlo (hL p hp))) (Nat.le_trans hlo hw'.size) hac hac2 140 _ (fun g => decide (g.nm = f.nm)) en_140 (fun w'' hw'' g ga gc hg => wrong1_walk w'' g ga gc bp f.nm ?_)) ?_)
  · exact (At.of_own hw' (List.mem_cons_of_mem _ (List.mem_singleton.2 rfl)) rfl).of_block (hw''.rest _ (hw'.lt (List.mem_cons_of_mem _ (List.mem_singleton.2 rfl))) (by simp))
  simp (disch := omega) only [push_cast, Nat.reduceEqDiff]
  rw [V_cond]
  simp (disch := omega) only [push_cast, Nat.reduceEqDiff]
  refine condX_b (fun c4 => ?_) (fun c4 => ?_)
  · simp (disch := omega) only [push_cast, Nat.reduceEqDiff]
    exact finIs hL (i64_eq (by unfold wrongN; rw [if_neg (by omega), if_neg (by omega), if_neg (fun h => h c3'), if_pos c4]))
  have c4' : ¬ (ah.any (fun g => decide (g.nm = f.nm)) = true) := by rw [c4]; simp
  simp (disch := omega) only [push_cast, Nat.reduceEqDiff]
  repeat' (first | ((first | refine guardX_t rfl (fun h => ?_) (fun h => ?_) | refine guardX_f rfl (fun h => ?_) (fun h => ?_) | refine condX_d (fun h => ?_) (fun h => ?_) | (refine guardX_bt rfl (fun h => ?_) (fun h => ?_) <;> (try subst h)) | (refine guardX_bf rfl (fun h => ?_) (fun h => ?_) <;> (try subst h)) | (refine condX_b (fun h => ?_) (fun h => ?_) <;> (try subst h)) | refine ldOne Shp.eq (by (first | exact mem0 | exact mem1 | exact mem2 | exact mem3 | exact mem4 | exact mem5)) rfl ?_ | refine loadX_agg Shp.eq (by (first | exact mem0 | exact mem1 | exact mem2 | exact mem3 | exact mem4 | exact mem5)) rfl rfl ?_ | refine newI (fun b hb hn => ?_) | refine storeX 0 rfl Siz.eq rfl rfl (by simp [Value.oneCell']) (by simp) ?_ | refine storeX 1 rfl Siz.eq rfl rfl (by simp [Value.oneCell']) (by simp) ?_ | refine storeX 2 rfl Siz.eq rfl rfl (by simp [Value.oneCell']) (by simp) ?_ | refine storeX 3 rfl Siz.eq rfl rfl (by simp [Value.oneCell']) (by simp) ?_ | refine storeX 4 rfl Siz.eq rfl rfl (by simp [Value.oneCell']) (by simp) ?_ | refine storeX 5 rfl Siz.eq rfl rfl (by simp [Value.oneCell']) (by simp) ?_ | refine storeX 6 rfl Siz.eq rfl rfl (by simp [Value.oneCell']) (by simp) ?_) <;> simp (disch := omega) only [push_cast, Nat.reduceEqDiff]))
  refine callV en_141 (callX_is (fun w' hw' => fits_walk w' (hs.mono hw' hL) f.k f.wd f.id f.ix a f.sub.length c) ?_)
  simp (disch := omega) only [push_cast, Nat.reduceEqDiff]
  rw [V_cond]
  simp (disch := omega) only [push_cast, Nat.reduceEqDiff]
  refine condX_d (fun c5 => ?_) (fun c5 => ?_)
  · simp (disch := omega) only [push_cast, Nat.reduceEqDiff]
    exact finIs hL (i64_eq (by unfold wrongN; rw [if_neg (by omega), if_neg (by omega), if_neg (fun h => h c3'), if_neg c4', if_pos c5]))
  have c5' : shapedF f := Decidable.not_not.1 c5
  have hk20 : f.k = 20 → f.sub ≠ [] := fun h e => by
    have h1 := c5'.2.2.2.1
    rw [e] at h1
    simp only [leastK, h] at h1
    simp at h1
  simp (disch := omega) only [push_cast, Nat.reduceEqDiff]
  repeat' (first | ((first | refine guardX_t rfl (fun h => ?_) (fun h => ?_) | refine guardX_f rfl (fun h => ?_) (fun h => ?_) | refine condX_d (fun h => ?_) (fun h => ?_) | (refine guardX_bt rfl (fun h => ?_) (fun h => ?_) <;> (try subst h)) | (refine guardX_bf rfl (fun h => ?_) (fun h => ?_) <;> (try subst h)) | (refine condX_b (fun h => ?_) (fun h => ?_) <;> (try subst h)) | refine ldOne Shp.eq (by (first | exact mem0 | exact mem1 | exact mem2 | exact mem3 | exact mem4 | exact mem5)) rfl ?_ | refine loadX_agg Shp.eq (by (first | exact mem0 | exact mem1 | exact mem2 | exact mem3 | exact mem4 | exact mem5)) rfl rfl ?_ | refine newI (fun b hb hn => ?_) | refine storeX 0 rfl Siz.eq rfl rfl (by simp [Value.oneCell']) (by simp) ?_ | refine storeX 1 rfl Siz.eq rfl rfl (by simp [Value.oneCell']) (by simp) ?_ | refine storeX 2 rfl Siz.eq rfl rfl (by simp [Value.oneCell']) (by simp) ?_ | refine storeX 3 rfl Siz.eq rfl rfl (by simp [Value.oneCell']) (by simp) ?_ | refine storeX 4 rfl Siz.eq rfl rfl (by simp [Value.oneCell']) (by simp) ?_ | refine storeX 5 rfl Siz.eq rfl rfl (by simp [Value.oneCell']) (by simp) ?_ | refine storeX 6 rfl Siz.eq rfl rfl (by simp [Value.oneCell']) (by simp) ?_) <;> simp (disch := omega) only [push_cast, Nat.reduceEqDiff]))
  refine callV en_142 (callX_is (fun w' hw' => nulls_walk w' f a c hk20 ((hf.sy hlo hw' (fun p hp => Nat.le_trans hlo (hL p hp))).weaken (Nat.le_trans hlo hw'.size))) ?_)
  simp (disch := omega) only [push_cast, Nat.reduceEqDiff]
  refine forget (fun e => e 3 = .pointer (some ⟨bp, 0, none⟩) ∧ e 7 = .pointer (some ⟨b, 0, none⟩) ∧ e 9 = .bool (decide (f.id ∈ S)) ∧ e 43 = .bool (!nullsB f)) ⟨rfl, rfl, rfl, rfl⟩ ?_
  rintro e ⟨e3, e7, e9, e43⟩
  rw [V_cond]
  simp (disch := omega) only [push_cast, Nat.reduceEqDiff, e43]
  refine condX_b (fun c6 => ?_) (fun c6 => ?_)
  · simp (disch := omega) only [push_cast, Nat.reduceEqDiff]
    exact finIs hL (i64_eq (by unfold wrongN; rw [if_neg (by omega), if_neg (by omega), if_neg (fun h => h c3'), if_neg c4', if_neg c5, if_pos (by simpa using c6)]))
  have c6' : ¬ nullsB f = false := by simpa using c6
  simp (disch := omega) only [push_cast, Nat.reduceEqDiff, e3, e7, e9]
  have pre : ∀ P Q : Prop, [Decidable P] → [Decidable Q] → (P ↔ ind = true ∧ (f.k = 19 ∨ f.k = 20)) → (Q ↔ f.k = 19 ∧ (firstNl f = true ∨ f.id ∈ S)) → wrongN pl ah f ind k S = if P then 36 else if Q then 36 else 0 := fun P Q _ _ h1 h2 => by
    unfold wrongN
    rw [if_neg (by omega), if_neg (by omega), if_neg (fun h => h c3'), if_neg c4', if_neg c5, if_neg c6']
    simp only [h1, h2]
  by_cases hk : f.k = 19
  · obtain ⟨g, l, hl⟩ : ∃ g l, f.sub = g :: l := List.exists_cons_of_ne_nil (fun e => by
      have h1 := c5'.2.2.2.1
      rw [e] at h1
      simp only [leastK, hk] at h1
      simp at h1)
    have hlen : 0 < f.sub.length := by rw [hl]; simp
    rw [hl] at hf
    obtain ⟨b', off, rfl, hb'⟩ := hf.some_of
    obtain ⟨a', c', x1, x2, x3⟩ := hf.get 0 rfl
    have hfn : firstNl f = g.nl := by simp [firstNl, hl]
    have d19 : decide (f.k = 19) = true := by simp [hk]
    have d20 : decide (f.k = 20) = false := by simp [hk]
    repeat' (first | ((first | refine guardX_t rfl (fun h => ?_) (fun h => ?_) | refine guardX_f rfl (fun h => ?_) (fun h => ?_) | refine condX_d (fun h => ?_) (fun h => ?_) | (refine guardX_bt rfl (fun h => ?_) (fun h => ?_) <;> (try subst h)) | (refine guardX_bf rfl (fun h => ?_) (fun h => ?_) <;> (try subst h)) | (refine condX_b (fun h => ?_) (fun h => ?_) <;> (try subst h)) | refine ldOne Shp.eq (by (first | exact mem0 | exact mem1 | exact mem2 | exact mem3 | exact mem4 | exact mem5)) rfl ?_ | refine loadX_agg Shp.eq (by (first | exact mem0 | exact mem1 | exact mem2 | exact mem3 | exact mem4 | exact mem5)) rfl rfl ?_ | refine newI (fun b hb hn => ?_) | refine storeX 0 rfl Siz.eq rfl rfl (by simp [Value.oneCell']) (by simp) ?_ | refine storeX 1 rfl Siz.eq rfl rfl (by simp [Value.oneCell']) (by simp) ?_ | refine storeX 2 rfl Siz.eq rfl rfl (by simp [Value.oneCell']) (by simp) ?_ | refine storeX 3 rfl Siz.eq rfl rfl (by simp [Value.oneCell']) (by simp) ?_ | refine storeX 4 rfl Siz.eq rfl rfl (by simp [Value.oneCell']) (by simp) ?_ | refine storeX 5 rfl Siz.eq rfl rfl (by simp [Value.oneCell']) (by simp) ?_ | refine storeX 6 rfl Siz.eq rfl rfl (by simp [Value.oneCell']) (by simp) ?_) <;> simp (disch := omega) only [push_cast, Nat.reduceEqDiff, e3, e7, e9, d19, d20]) | (first | rw [V_cond] | rw [V_block]) <;> (try simp (disch := omega) only [push_cast, Nat.reduceEqDiff, e3, e7, e9, d19, d20]))
    · exact finIs hL (i64_eq (by rw [pre _ _ Iff.rfl Iff.rfl, if_pos ⟨rfl, .inl hk⟩]))
    refine ldF (by exact sh_4) (x2.sub 1 [.bool g.nl] rfl) (out_of fun p hp => Nat.lt_of_lt_of_le (Nat.lt_of_lt_of_le x1 hlo) (hL p hp)) ?_
    simp (disch := omega) only [push_cast, Nat.reduceEqDiff, e3, e7, e9, d19, d20]
    repeat' (first | ((first | refine guardX_t rfl (fun h => ?_) (fun h => ?_) | refine guardX_f rfl (fun h => ?_) (fun h => ?_) | refine condX_d (fun h => ?_) (fun h => ?_) | (refine guardX_bt rfl (fun h => ?_) (fun h => ?_) <;> (try subst h)) | (refine guardX_bf rfl (fun h => ?_) (fun h => ?_) <;> (try subst h)) | (refine condX_b (fun h => ?_) (fun h => ?_) <;> (try subst h)) | refine ldOne Shp.eq (by (first | exact mem0 | exact mem1 | exact mem2 | exact mem3 | exact mem4 | exact mem5)) rfl ?_ | refine loadX_agg Shp.eq (by (first | exact mem0 | exact mem1 | exact mem2 | exact mem3 | exact mem4 | exact mem5)) rfl rfl ?_ | refine newI (fun b hb hn => ?_) | refine storeX 0 rfl Siz.eq rfl rfl (by simp [Value.oneCell']) (by simp) ?_ | refine storeX 1 rfl Siz.eq rfl rfl (by simp [Value.oneCell']) (by simp) ?_ | refine storeX 2 rfl Siz.eq rfl rfl (by simp [Value.oneCell']) (by simp) ?_ | refine storeX 3 rfl Siz.eq rfl rfl (by simp [Value.oneCell']) (by simp) ?_ | refine storeX 4 rfl Siz.eq rfl rfl (by simp [Value.oneCell']) (by simp) ?_ | refine storeX 5 rfl Siz.eq rfl rfl (by simp [Value.oneCell']) (by simp) ?_ | refine storeX 6 rfl Siz.eq rfl rfl (by simp [Value.oneCell']) (by simp) ?_) <;> simp (disch := omega) only [push_cast, Nat.reduceEqDiff, e3, e7, e9, d19, d20]) | (first | rw [V_cond] | rw [V_block]) <;> (try simp (disch := omega) only [push_cast, Nat.reduceEqDiff, e3, e7, e9, d19, d20]))
    all_goals (refine finIs hL (i64_eq ?_); rw [pre _ _ Iff.rfl Iff.rfl, if_neg (fun h => by cases h.1)])
    all_goals rw [hfn] at *
    all_goals first
      | (rw [if_pos ⟨hk, .inl (by assumption)⟩])
      | (rw [if_pos ⟨hk, .inr (by assumption)⟩])
      | (rw [if_neg (fun h => by rcases h with ⟨h1, h2 | h2⟩ <;> simp_all)])
  · have d19 : decide (f.k = 19) = false := by simp [hk]
    repeat' (first | ((first | refine guardX_t rfl (fun h => ?_) (fun h => ?_) | refine guardX_f rfl (fun h => ?_) (fun h => ?_) | refine condX_d (fun h => ?_) (fun h => ?_) | (refine guardX_bt rfl (fun h => ?_) (fun h => ?_) <;> (try subst h)) | (refine guardX_bf rfl (fun h => ?_) (fun h => ?_) <;> (try subst h)) | (refine condX_b (fun h => ?_) (fun h => ?_) <;> (try subst h)) | refine ldOne Shp.eq (by (first | exact mem0 | exact mem1 | exact mem2 | exact mem3 | exact mem4 | exact mem5)) rfl ?_ | refine loadX_agg Shp.eq (by (first | exact mem0 | exact mem1 | exact mem2 | exact mem3 | exact mem4 | exact mem5)) rfl rfl ?_ | refine newI (fun b hb hn => ?_) | refine storeX 0 rfl Siz.eq rfl rfl (by simp [Value.oneCell']) (by simp) ?_ | refine storeX 1 rfl Siz.eq rfl rfl (by simp [Value.oneCell']) (by simp) ?_ | refine storeX 2 rfl Siz.eq rfl rfl (by simp [Value.oneCell']) (by simp) ?_ | refine storeX 3 rfl Siz.eq rfl rfl (by simp [Value.oneCell']) (by simp) ?_ | refine storeX 4 rfl Siz.eq rfl rfl (by simp [Value.oneCell']) (by simp) ?_ | refine storeX 5 rfl Siz.eq rfl rfl (by simp [Value.oneCell']) (by simp) ?_ | refine storeX 6 rfl Siz.eq rfl rfl (by simp [Value.oneCell']) (by simp) ?_) <;> simp (disch := omega) only [push_cast, Nat.reduceEqDiff, e3, e7, e9, d19]) | (first | rw [V_cond] | rw [V_block]) <;> (try simp (disch := omega) only [push_cast, Nat.reduceEqDiff, e3, e7, e9, d19]))
    all_goals (refine finIs hL (i64_eq ?_); rw [pre _ _ Iff.rfl Iff.rfl])
    all_goals first
      | contradiction
      | rw [if_pos ⟨rfl, .inr (by assumption)⟩]
      | rw [if_neg (fun h => by rcases h with ⟨h1, h2 | h2⟩ <;> first | contradiction | cases h1), if_neg (fun h => hk h.1)]
end Go.Proofs.YtilejcofleeeiaaGreatDoor
