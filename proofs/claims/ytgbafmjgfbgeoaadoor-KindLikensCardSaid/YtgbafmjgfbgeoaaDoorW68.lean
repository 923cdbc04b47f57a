/- YtgbafmjgfbgeoaaDoor: walks, part 68: how many buffers, children and dictionaries an array of a type has. -/
import Derived.Test.YtgbafmjgfbgeoaaDoorW67
import Derived.Test.YtgbafmjgfbgeoaaDoorKs
namespace Go.Proofs.YtgbafmjgfbgeoaaDoor
open Go Go.K
set_option maxRecDepth 100000
set_option linter.unusedVariables false
set_option linter.unusedSimpArgs false
set_option maxHeartbeats 1000000
structure ShI (f : Fld) (a : Option Addr) (c : Nat) (p1 : Value) (x : Nat × Obj) (n : Nat) (dc : Int) (D : Nat → Bool) (e : Env) (ds : List Deferred) (L : Own) : Prop where
  hds : ds = []
  o : L = [x]
  h1 : e 1 = p1
  h15 : e 15 = i64 (saysBufs f.k.toNat)
  h16 : e 16 = tyV f a c
  h19 : e 19 = i64 dc
  d6 : D 6 = true → ∃ a c, e 17 = .slice a n c
  d7 : D 7 = true → e 18 = i64 n
  d9 : D 9 = true → e 2 = i64 (saysBufs f.k.toNat)
  d10 : D 10 = true → e 3 = i64 n
  d11 : D 11 = true → e 4 = i64 dc
structure ShA (w : World) (f : Fld) (a : Option Addr) (c b1 : Nat) (wb : World) (e : Env) (ds : List Deferred) (L : Own) : Prop where
  hw : wb = w
  hds : ds = []
  o : L = [(b1, Obj.cells #[i64 f.k, i64 f.wd, i64 f.id, i64 f.ix, .slice a f.sub.length c] 36 (0, 0))]
  h1 : e 1 = .pointer (some ⟨b1, 0, none⟩)
  h4 : e 4 = i64 (if f.k = 19 then 1 else 0)
theorem shape_walk (w : World) (hs : SaysAt w) (lo : Nat) (hlo : lo ≤ w.heap.size) (f : Fld) (a : Option Addr) (c : Nat) (hT : TyAt w lo f a c) :
    Calls Tryd.prog 23 #[tyV f a c] w (Rets w (Is (.tuple #[i64 (shapeP f).1, i64 (shapeP f).2.1, i64 (shapeP f).2.2]))) := by
  refine enterT (args := [tyV f a c]) Tryd.func23 rfl Tryd.ntmps23 (congrArg Array.toList Tryd.results23) (by kernel_rfl) (by simp) (Sy.refl w) ?_
  simp (disch := omega) only [push_cast, Nat.reduceEqDiff, Fld.tcells]
  refine newI (fun b1 hb1 hn1 => ?_)
  simp (disch := omega) only [push_cast, Nat.reduceEqDiff, Fld.tcells]
  refine loadX_agg Shp.eq mem0 rfl rfl ?_
  simp (disch := omega) only [push_cast, Nat.reduceEqDiff]
  have hL : ∀ x : Obj, ∀ p ∈ [(b1, x)], w.heap.size ≤ p.1 := fun x p hp => by rw [List.mem_singleton.1 hp]; exact hb1
  have hG : ∀ x : Obj, 0 ∉ ([(b1, x)] : Own).map (·.1) := fun x => out_of (fun p hp => Nat.lt_of_lt_of_le hs.1 (hL x p hp))
  refine callV en_44 (callX_is (fun w' hw' => mayType_walk w' (hs.mono hw' (hL _)) lo (Nat.le_trans hlo hw'.size) f a c (hT.sy hlo hw' (hL _))) ?_)
  simp (disch := omega) only [push_cast, Nat.reduceEqDiff]
  rcases hm : mayT f with _ | _
  · simp only [Bool.not_false]
    rw [V_cond]
    simp (disch := omega) only [push_cast, Nat.reduceEqDiff]
    exact finIs (hL _) (by simp [shapeP, hm])
  obtain ⟨hk, hx⟩ := may_kinds hm
  have hsp : shapeP f = (saysBufs f.k.toNat, ((partsP f).length : Int), if f.k = 19 then 1 else 0) := by unfold shapeP; rw [if_pos hm]
  rw [hsp]
  simp only [Bool.not_true]
  rw [V_cond]
  simp (disch := omega) only [push_cast, Nat.reduceEqDiff]
  refine ldOne Shp.eq mem0 rfl ?_
  simp (disch := omega) only [push_cast, Nat.reduceEqDiff]
  refine cutV (ShA w f a c b1) ?_ ?_
  · rw [V_cond]
    simp (disch := omega) only [push_cast, Nat.reduceEqDiff]
    refine condX_d (fun h19 => ?_) (fun h19 => ?_)
    · simp (disch := omega) only [push_cast, Nat.reduceEqDiff]
      exact ⟨rfl, rfl, rfl, rfl, by rw [if_pos h19]; rfl⟩
    · simp (disch := omega) only [push_cast, Nat.reduceEqDiff]
      exact ⟨rfl, rfl, rfl, rfl, by rw [if_neg h19]; rfl⟩
  rintro wb e ds L ⟨rfl, rfl, rfl, h1, h4⟩
  simp (disch := omega) only [push_cast, Nat.reduceEqDiff, h1, h4]
  generalize (if f.k = 19 then 1 else 0 : Int) = dc at h4 ⊢
  refine freeIT [0, 1, 2, 3, 4, 5, 8] [6, 7, 9, 10, 11] [(6, []), (7, [6]), (9, [6]), (10, [7, 9]), (11, [10])] [(b1, Obj.cells #[i64 f.k, i64 f.wd, i64 f.id, i64 f.ix, .slice a f.sub.length c] 36 (0, 0))] (ShI f a c (.pointer (some ⟨b1, 0, none⟩)) (b1, Obj.cells #[i64 f.k, i64 f.wd, i64 f.id, i64 f.ix, .slice a f.sub.length c] 36 (0, 0)) (partsP f).length dc) (by kernel_rfl) mixed (by kernel_rfl) (by kernel_rfl) (fun D e ds L hI => by rw [hI.o]; exact fun w hw => hw) ?_ ?_ (fun w hw => hw) ?_
  · intro p hp D e ds L hD hdep hI
    obtain ⟨rfl, rfl, h1, h15, h16, h19, d6, d7, d9, d10, d11⟩ := hI
    simp only [List.mem_cons, List.mem_nil_iff, or_false] at hp
    rcases hp with rfl | rfl | rfl | rfl | rfl
    all_goals simp only [List.mem_cons, List.mem_nil_iff, or_false, forall_eq_or_imp, forall_eq, false_implies, implies_true] at hD hdep
    · simp (disch := omega) only [push_cast, Nat.reduceEqDiff, h1, h15, h16, h19]
      refine callV en_28 (callX_new (fun w' hw' => parts_walk w' (hs.mono hw' (hL _)) lo (Nat.le_trans hlo hw'.size) f a c (hT.sy hlo hw' (hL _))) (fun v M hM hMn hS => ?_))
      obtain ⟨a2, c2, xs2, rfl, _⟩ := hS
      simp (disch := omega) only [push_cast, Nat.reduceEqDiff]
      exact ⟨_, fun w hw => hw.drop (List.sublist_append_right M _) (fun p hp => by
        rcases List.mem_append.1 hp with hp | hp
        · exact .inr (hM p hp)
        · exact .inl hp), rfl, rfl, (by simpa [upd] using h1), (by simpa [upd] using h15), (by simpa [upd] using h16), (by simpa [upd] using h19), (fun _ => ⟨a2, c2, by simp [upd]⟩), (fun h => by simpa [upd] using d7 (by simpa using h)), (fun h => by simpa [upd] using d9 (by simpa using h)), (fun h => by simpa [upd] using d10 (by simpa using h)), (fun h => by simpa [upd] using d11 (by simpa using h))⟩
    · obtain ⟨a2, c2, h17⟩ := d6 hdep
      simp (disch := omega) only [push_cast, Nat.reduceEqDiff, h17]
      exact ⟨_, fun w hw => hw, rfl, rfl, (by simpa [upd] using h1), (by simpa [upd] using h15), (by simpa [upd] using h16), (by simpa [upd] using h19), (fun h => ⟨a2, c2, by simpa [upd] using h17⟩), (fun _ => by simp [upd]), (fun h => by simpa [upd] using d9 (by simpa using h)), (fun h => by simpa [upd] using d10 (by simpa using h)), (fun h => by simpa [upd] using d11 (by simpa using h))⟩
    · simp (disch := omega) only [push_cast, Nat.reduceEqDiff, h15]
      exact ⟨_, fun w hw => hw, rfl, rfl, (by simpa [upd] using h1), (by simpa [upd] using h15), (by simpa [upd] using h16), (by simpa [upd] using h19), (fun h => by simpa [upd] using d6 (by simpa using h)), (fun h => by simpa [upd] using d7 (by simpa using h)), (fun _ => by simp [upd]), (fun h => by simpa [upd] using d10 (by simpa using h)), (fun h => by simpa [upd] using d11 (by simpa using h))⟩
    · have h18 := d7 hdep.1
      simp (disch := omega) only [push_cast, Nat.reduceEqDiff, h18]
      exact ⟨_, fun w hw => hw, rfl, rfl, (by simpa [upd] using h1), (by simpa [upd] using h15), (by simpa [upd] using h16), (by simpa [upd] using h19), (fun h => by simpa [upd] using d6 (by simpa using h)), (fun h => by simpa [upd] using d7 (by simpa using h)), (fun h => by simpa [upd] using d9 (by simpa using h)), (fun _ => by simp [upd]), (fun h => by simpa [upd] using d11 (by simpa using h))⟩
    · simp (disch := omega) only [push_cast, Nat.reduceEqDiff, h19]
      exact ⟨_, fun w hw => hw, rfl, rfl, (by simpa [upd] using h1), (by simpa [upd] using h15), (by simpa [upd] using h16), (by simpa [upd] using h19), (fun h => by simpa [upd] using d6 (by simpa using h)), (fun h => by simpa [upd] using d7 (by simpa using h)), (fun h => by simpa [upd] using d9 (by simpa using h)), (fun h => by simpa [upd] using d10 (by simpa using h)), (fun _ => by simp [upd])⟩
  · intro D e ds L hD hI
    obtain ⟨rfl, rfl, h1, h15, h16, h19, d6, d7, d9, d10, d11⟩ := hI
    have h2 := d9 (hD 9 (by simp))
    have h3 := d10 (hD 10 (by simp))
    have h4 := d11 (hD 11 (by simp))
    simp (disch := omega) only [push_cast, Nat.reduceEqDiff, h1, h2, h3, h4]
    exact finIs (hL _) rfl
  · simp (disch := omega) only [push_cast, Nat.reduceEqDiff, h1, h4]
    refine ldOne Shp.eq mem0 rfl ?_
    simp (disch := omega) only [push_cast, Nat.reduceEqDiff, h1, h4]
    refine ldF Shp.eq ((hs.2 f.k.toNat (by omega)).sub 2 [i64 (saysBufs f.k.toNat)] rfl) (hG _) ?_
    simp (disch := omega) only [push_cast, Nat.reduceEqDiff, h1, h4]
    refine loadX_agg Shp.eq mem0 rfl rfl ?_
    simp (disch := omega) only [push_cast, Nat.reduceEqDiff, h1, h4]
    exact ⟨rfl, rfl, h1, rfl, rfl, rfl, (fun h => by simp at h), (fun h => by simp at h), (fun h => by simp at h), (fun h => by simp at h), (fun h => by simp at h)⟩
end Go.Proofs.YtgbafmjgfbgeoaaDoor
