/- YtgbafmjgfbgeoaaDoor: walks, part 74: the reference's: are two types alike? -/
import Derived.Test.YtgbafmjgfbgeoaaDoorW73
import Derived.Test.YtgbafmjgfbgeoaaDoorKs
namespace Go.Proofs.YtgbafmjgfbgeoaaDoor
open Go Go.K
set_option maxRecDepth 100000
set_option linter.unusedVariables false
set_option linter.unusedSimpArgs false
set_option maxHeartbeats 1000000
abbrev alkO (f g : Fld) (a a' : Option Addr) (c c' b2 b3 : Nat) : Own := [(b3, Obj.cells #[i64 g.k, i64 g.wd, i64 g.id, i64 g.ix, .slice a' g.sub.length c'] 36 (0, 0)), (b2, Obj.cells #[i64 f.k, i64 f.wd, i64 f.id, i64 f.ix, .slice a f.sub.length c] 36 (0, 0))]
structure RAI (w : World) (f g : Fld) (a a' : Option Addr) (c c' b2 b3 : Nat) (D : Nat → Bool) (e : Env) (ds : List Deferred) (L : Own) : Prop where
  hds : ds = []
  h2 : e 2 = .pointer (some ⟨b2, 0, none⟩)
  h3 : e 3 = .pointer (some ⟨b3, 0, none⟩)
  o : ∃ X Y, L = X ++ (Y ++ alkO f g a a' c c' b2 b3) ∧ ((X = [] ∧ (D 9 = true → (mayT f && mayT g) = false)) ∨ (D 9 = true ∧ ∃ b, w.heap.size ≤ b ∧ X = [(b, Obj.cells ((holdR f).cells a c).toArray 38 (0, 0))] ∧ e 14 = .slice (some ⟨b, 0, none⟩) 1 1)) ∧
    ((Y = [] ∧ (D 12 = true → (mayT f && mayT g) = false)) ∨ (D 12 = true ∧ ∃ b, w.heap.size ≤ b ∧ Y = [(b, Obj.cells ((holdR g).cells a' c').toArray 38 (0, 0))] ∧ e 17 = .slice (some ⟨b, 0, none⟩) 1 1))
  d0 : D 0 = true → e 5 = tyV f a c
  d1 : D 1 = true → e 6 = .bool (mayT f)
  d2 : D 2 = true → e 7 = .bool (mayT f)
  d3 : D 3 = true → mayT f = true → e 8 = tyV g a' c'
  d4 : D 4 = true → mayT f = true → e 9 = .bool (mayT g)
  d5 : D 5 = true → e 10 = .bool (mayT f && mayT g)
  d6 : D 6 = true → e 11 = .bool (mayT f && mayT g)
  d7 : D 7 = true → (mayT f && mayT g) = true → e 12 = tyV f a c
  d8 : D 8 = true → (mayT f && mayT g) = true → e 13 = .agg ((holdR f).cells a c).toArray
  d10 : D 10 = true → (mayT f && mayT g) = true → e 15 = tyV g a' c'
  d11 : D 11 = true → (mayT f && mayT g) = true → e 16 = .agg ((holdR g).cells a' c').toArray
  d13 : D 13 = true → (mayT f && mayT g) = true → e 18 = .bool (sameF f g)
  d14 : D 14 = true → e 19 = .bool (alikeTP f g)
  d15 : D 15 = true → e 4 = .bool (alikeTP f g)
theorem RAI.new {w : World} {f g : Fld} {a a' : Option Addr} {c c' b2 b3 : Nat} {D : Nat → Bool} {e : Env} {ds : List Deferred} {L : Own} (h : RAI w f g a a' c c' b2 b3 D e ds L) (h2 : w.heap.size ≤ b2) (h3 : w.heap.size ≤ b3) : ∀ p ∈ L, w.heap.size ≤ p.1 := by
  obtain ⟨X, Y, rfl, hX, hY⟩ := h.o
  intro p hp
  simp only [List.mem_append, List.mem_cons, List.mem_nil_iff, or_false] at hp
  rcases hp with hp | hp | rfl | rfl
  · rcases hX with ⟨rfl, _⟩ | ⟨_, b, hb, rfl, _⟩
    · cases hp
    · rw [List.mem_singleton.1 hp]; exact hb
  · rcases hY with ⟨rfl, _⟩ | ⟨_, b, hb, rfl, _⟩
    · cases hp
    · rw [List.mem_singleton.1 hp]; exact hb
  · exact h3
  · exact h2
theorem alikeTR_walk (w : World) (lo : Nat) (hlo : lo ≤ w.heap.size) (f g : Fld) (a a' : Option Addr) (c c' : Nat) (hT : TyAt w lo f a c) (hT' : TyAt w lo g a' c') :
    Calls Tryd.prog 22 #[tyV f a c, tyV g a' c'] w (Rets w (Is (.bool (alikeTP f g)))) := by
  refine enterT (args := [tyV f a c, tyV g a' c']) Tryd.func22 rfl Tryd.ntmps22 (congrArg Array.toList Tryd.results22) (by kernel_rfl) (by simp) (Sy.refl w) ?_
  simp (disch := omega) only [push_cast, Nat.reduceEqDiff, Fld.tcells]
  refine newI (fun b2 hb2 hn2 => ?_)
  simp (disch := omega) only [push_cast, Nat.reduceEqDiff, Fld.tcells]
  refine newI (fun b3 hb3 hn3 => ?_)
  simp (disch := omega) only [push_cast, Nat.reduceEqDiff, Fld.tcells]
  refine regionG [(0, []), (1, [0]), (2, [1]), (3, [2]), (4, [2, 3]), (5, [2, 4]), (6, [5]), (7, [6]), (8, [6, 7]), (9, [6, 8]), (10, [6]), (11, [6, 10]), (12, [6, 11]), (13, [6, 9, 12]), (14, [6, 13]), (15, [14])] (RAI w f g a a' c c' b2 b3) (by kernel_rfl) mixed (by kernel_rfl) ?_ ?_ ?_
  · intro p hp D e ds L hD hdep hI
    have hLn := hI.new hb2 hb3
    obtain ⟨rfl, h2, h3, ⟨X, Y, rfl, hX, hY⟩, d0, d1, d2, d3, d4, d5, d6, d7, d8, d10, d11, d13, d14, d15⟩ := hI
    have hm2 : ∀ X Y : Own, (b2, Obj.cells #[i64 f.k, i64 f.wd, i64 f.id, i64 f.ix, .slice a f.sub.length c] 36 (0, 0)) ∈ X ++ (Y ++ alkO f g a a' c c' b2 b3) := fun X Y => List.mem_append_right _ (List.mem_append_right _ (.tail _ (.head _)))
    have hm3 : ∀ X Y : Own, (b3, Obj.cells #[i64 g.k, i64 g.wd, i64 g.id, i64 g.ix, .slice a' g.sub.length c'] 36 (0, 0)) ∈ X ++ (Y ++ alkO f g a a' c c' b2 b3) := fun X Y => List.mem_append_right _ (List.mem_append_right _ (.head _))
    simp only [List.mem_cons, List.mem_nil_iff, or_false] at hp
    rcases hp with rfl | rfl | rfl | rfl | rfl | rfl | rfl | rfl | rfl | rfl | rfl | rfl | rfl | rfl | rfl | rfl
    all_goals simp only [List.mem_cons, List.mem_nil_iff, or_false, forall_eq_or_imp, forall_eq, false_implies, implies_true] at hD hdep
    · simp (disch := omega) only [push_cast, Nat.reduceEqDiff, h2, h3]
      refine loadX_agg Shp.eq (hm2 X Y) rfl rfl ?_
      simp (disch := omega) only [push_cast, Nat.reduceEqDiff]
      exact ⟨_, fun w hw => hw, ⟨rfl, (by simpa [upd] using h2), (by simpa [upd] using h3), ⟨X, Y, rfl, (by simpa [upd] using hX), (by simpa [upd] using hY)⟩, (fun _ => rfl), (fun h => by simpa [upd] using d1 (by simpa using h)), (fun h => by simpa [upd] using d2 (by simpa using h)), (fun h => by simpa [upd] using d3 (by simpa using h)), (fun h => by simpa [upd] using d4 (by simpa using h)), (fun h => by simpa [upd] using d5 (by simpa using h)), (fun h => by simpa [upd] using d6 (by simpa using h)), (fun h => by simpa [upd] using d7 (by simpa using h)), (fun h => by simpa [upd] using d8 (by simpa using h)), (fun h => by simpa [upd] using d10 (by simpa using h)), (fun h => by simpa [upd] using d11 (by simpa using h)), (fun h => by simpa [upd] using d13 (by simpa using h)), (fun h => by simpa [upd] using d14 (by simpa using h)), (fun h => by simpa [upd] using d15 (by simpa using h))⟩⟩
    · have q := d0 hdep
      simp (disch := omega) only [push_cast, Nat.reduceEqDiff, q]
      refine callV en_50 (callX_is (fun w' hw' => typeMayBe_walk w' lo (Nat.le_trans hlo hw'.size) f a c (hT.sy hlo hw' hLn)) ?_)
      simp (disch := omega) only [push_cast, Nat.reduceEqDiff]
      exact ⟨_, fun w hw => hw, ⟨rfl, (by simpa [upd] using h2), (by simpa [upd] using h3), ⟨X, Y, rfl, (by simpa [upd] using hX), (by simpa [upd] using hY)⟩, (fun h => by simpa [upd] using d0 (by simpa using h)), (fun _ => rfl), (fun h => by simpa [upd] using d2 (by simpa using h)), (fun h => by simpa [upd] using d3 (by simpa using h)), (fun h => by simpa [upd] using d4 (by simpa using h)), (fun h => by simpa [upd] using d5 (by simpa using h)), (fun h => by simpa [upd] using d6 (by simpa using h)), (fun h => by simpa [upd] using d7 (by simpa using h)), (fun h => by simpa [upd] using d8 (by simpa using h)), (fun h => by simpa [upd] using d10 (by simpa using h)), (fun h => by simpa [upd] using d11 (by simpa using h)), (fun h => by simpa [upd] using d13 (by simpa using h)), (fun h => by simpa [upd] using d14 (by simpa using h)), (fun h => by simpa [upd] using d15 (by simpa using h))⟩⟩
    · have q := d1 hdep
      simp (disch := omega) only [push_cast, Nat.reduceEqDiff, q]
      exact ⟨_, fun w hw => hw, ⟨rfl, (by simpa [upd] using h2), (by simpa [upd] using h3), ⟨X, Y, rfl, (by simpa [upd] using hX), (by simpa [upd] using hY)⟩, (fun h => by simpa [upd] using d0 (by simpa using h)), (fun h => by simpa [upd] using d1 (by simpa using h)), (fun _ => rfl), (fun h => by simpa [upd] using d3 (by simpa using h)), (fun h => by simpa [upd] using d4 (by simpa using h)), (fun h => by simpa [upd] using d5 (by simpa using h)), (fun h => by simpa [upd] using d6 (by simpa using h)), (fun h => by simpa [upd] using d7 (by simpa using h)), (fun h => by simpa [upd] using d8 (by simpa using h)), (fun h => by simpa [upd] using d10 (by simpa using h)), (fun h => by simpa [upd] using d11 (by simpa using h)), (fun h => by simpa [upd] using d13 (by simpa using h)), (fun h => by simpa [upd] using d14 (by simpa using h)), (fun h => by simpa [upd] using d15 (by simpa using h))⟩⟩
    · have q := d2 hdep
      rcases hm : mayT f with _ | _
      · rw [hm] at q
        simp (disch := omega) only [push_cast, Nat.reduceEqDiff, q]
        exact ⟨_, fun w hw => hw, ⟨rfl, (by simpa [upd] using h2), (by simpa [upd] using h3), ⟨X, Y, rfl, (by simpa [upd] using hX), (by simpa [upd] using hY)⟩, (fun h => by simpa [upd] using d0 (by simpa using h)), (fun h => by simpa [upd] using d1 (by simpa using h)), (fun h => by simpa [upd] using d2 (by simpa using h)), (fun _ => fun hh => by rw [hm] at hh; cases hh), (fun h => by simpa [upd] using d4 (by simpa using h)), (fun h => by simpa [upd] using d5 (by simpa using h)), (fun h => by simpa [upd] using d6 (by simpa using h)), (fun h => by simpa [upd] using d7 (by simpa using h)), (fun h => by simpa [upd] using d8 (by simpa using h)), (fun h => by simpa [upd] using d10 (by simpa using h)), (fun h => by simpa [upd] using d11 (by simpa using h)), (fun h => by simpa [upd] using d13 (by simpa using h)), (fun h => by simpa [upd] using d14 (by simpa using h)), (fun h => by simpa [upd] using d15 (by simpa using h))⟩⟩
      · rw [hm] at q
        simp (disch := omega) only [push_cast, Nat.reduceEqDiff, q, h3]
        refine loadX_agg Shp.eq (hm3 X Y) rfl rfl ?_
        simp (disch := omega) only [push_cast, Nat.reduceEqDiff]
        exact ⟨_, fun w hw => hw, ⟨rfl, (by simpa [upd] using h2), (by simpa [upd] using h3), ⟨X, Y, rfl, (by simpa [upd] using hX), (by simpa [upd] using hY)⟩, (fun h => by simpa [upd] using d0 (by simpa using h)), (fun h => by simpa [upd] using d1 (by simpa using h)), (fun h => by simpa [upd] using d2 (by simpa using h)), (fun _ => fun _ => rfl), (fun h => by simpa [upd] using d4 (by simpa using h)), (fun h => by simpa [upd] using d5 (by simpa using h)), (fun h => by simpa [upd] using d6 (by simpa using h)), (fun h => by simpa [upd] using d7 (by simpa using h)), (fun h => by simpa [upd] using d8 (by simpa using h)), (fun h => by simpa [upd] using d10 (by simpa using h)), (fun h => by simpa [upd] using d11 (by simpa using h)), (fun h => by simpa [upd] using d13 (by simpa using h)), (fun h => by simpa [upd] using d14 (by simpa using h)), (fun h => by simpa [upd] using d15 (by simpa using h))⟩⟩
    · have q := d2 hdep.1
      rcases hm : mayT f with _ | _
      · rw [hm] at q
        simp (disch := omega) only [push_cast, Nat.reduceEqDiff, q]
        exact ⟨_, fun w hw => hw, ⟨rfl, (by simpa [upd] using h2), (by simpa [upd] using h3), ⟨X, Y, rfl, (by simpa [upd] using hX), (by simpa [upd] using hY)⟩, (fun h => by simpa [upd] using d0 (by simpa using h)), (fun h => by simpa [upd] using d1 (by simpa using h)), (fun h => by simpa [upd] using d2 (by simpa using h)), (fun h => by simpa [upd] using d3 (by simpa using h)), (fun _ => fun hh => by rw [hm] at hh; cases hh), (fun h => by simpa [upd] using d5 (by simpa using h)), (fun h => by simpa [upd] using d6 (by simpa using h)), (fun h => by simpa [upd] using d7 (by simpa using h)), (fun h => by simpa [upd] using d8 (by simpa using h)), (fun h => by simpa [upd] using d10 (by simpa using h)), (fun h => by simpa [upd] using d11 (by simpa using h)), (fun h => by simpa [upd] using d13 (by simpa using h)), (fun h => by simpa [upd] using d14 (by simpa using h)), (fun h => by simpa [upd] using d15 (by simpa using h))⟩⟩
      · have q2 := d3 hdep.2 hm
        rw [hm] at q
        simp (disch := omega) only [push_cast, Nat.reduceEqDiff, q, q2]
        refine callV en_50 (callX_is (fun w' hw' => typeMayBe_walk w' lo (Nat.le_trans hlo hw'.size) g a' c' (hT'.sy hlo hw' hLn)) ?_)
        simp (disch := omega) only [push_cast, Nat.reduceEqDiff]
        exact ⟨_, fun w hw => hw, ⟨rfl, (by simpa [upd] using h2), (by simpa [upd] using h3), ⟨X, Y, rfl, (by simpa [upd] using hX), (by simpa [upd] using hY)⟩, (fun h => by simpa [upd] using d0 (by simpa using h)), (fun h => by simpa [upd] using d1 (by simpa using h)), (fun h => by simpa [upd] using d2 (by simpa using h)), (fun h => by simpa [upd] using d3 (by simpa using h)), (fun _ => fun _ => rfl), (fun h => by simpa [upd] using d5 (by simpa using h)), (fun h => by simpa [upd] using d6 (by simpa using h)), (fun h => by simpa [upd] using d7 (by simpa using h)), (fun h => by simpa [upd] using d8 (by simpa using h)), (fun h => by simpa [upd] using d10 (by simpa using h)), (fun h => by simpa [upd] using d11 (by simpa using h)), (fun h => by simpa [upd] using d13 (by simpa using h)), (fun h => by simpa [upd] using d14 (by simpa using h)), (fun h => by simpa [upd] using d15 (by simpa using h))⟩⟩
    · have q := d2 hdep.1
      rcases hm : mayT f with _ | _
      · rw [hm] at q
        simp (disch := omega) only [push_cast, Nat.reduceEqDiff, q]
        exact ⟨_, fun w hw => hw, ⟨rfl, (by simpa [upd] using h2), (by simpa [upd] using h3), ⟨X, Y, rfl, (by simpa [upd] using hX), (by simpa [upd] using hY)⟩, (fun h => by simpa [upd] using d0 (by simpa using h)), (fun h => by simpa [upd] using d1 (by simpa using h)), (fun h => by simpa [upd] using d2 (by simpa using h)), (fun h => by simpa [upd] using d3 (by simpa using h)), (fun h => by simpa [upd] using d4 (by simpa using h)), (fun _ => by rw [hm]; rfl), (fun h => by simpa [upd] using d6 (by simpa using h)), (fun h => by simpa [upd] using d7 (by simpa using h)), (fun h => by simpa [upd] using d8 (by simpa using h)), (fun h => by simpa [upd] using d10 (by simpa using h)), (fun h => by simpa [upd] using d11 (by simpa using h)), (fun h => by simpa [upd] using d13 (by simpa using h)), (fun h => by simpa [upd] using d14 (by simpa using h)), (fun h => by simpa [upd] using d15 (by simpa using h))⟩⟩
      · have q2 := d4 hdep.2 hm
        rw [hm] at q
        simp (disch := omega) only [push_cast, Nat.reduceEqDiff, q, q2]
        exact ⟨_, fun w hw => hw, ⟨rfl, (by simpa [upd] using h2), (by simpa [upd] using h3), ⟨X, Y, rfl, (by simpa [upd] using hX), (by simpa [upd] using hY)⟩, (fun h => by simpa [upd] using d0 (by simpa using h)), (fun h => by simpa [upd] using d1 (by simpa using h)), (fun h => by simpa [upd] using d2 (by simpa using h)), (fun h => by simpa [upd] using d3 (by simpa using h)), (fun h => by simpa [upd] using d4 (by simpa using h)), (fun _ => by rw [hm]; rfl), (fun h => by simpa [upd] using d6 (by simpa using h)), (fun h => by simpa [upd] using d7 (by simpa using h)), (fun h => by simpa [upd] using d8 (by simpa using h)), (fun h => by simpa [upd] using d10 (by simpa using h)), (fun h => by simpa [upd] using d11 (by simpa using h)), (fun h => by simpa [upd] using d13 (by simpa using h)), (fun h => by simpa [upd] using d14 (by simpa using h)), (fun h => by simpa [upd] using d15 (by simpa using h))⟩⟩
    · have q := d5 hdep
      simp (disch := omega) only [push_cast, Nat.reduceEqDiff, q]
      exact ⟨_, fun w hw => hw, ⟨rfl, (by simpa [upd] using h2), (by simpa [upd] using h3), ⟨X, Y, rfl, (by simpa [upd] using hX), (by simpa [upd] using hY)⟩, (fun h => by simpa [upd] using d0 (by simpa using h)), (fun h => by simpa [upd] using d1 (by simpa using h)), (fun h => by simpa [upd] using d2 (by simpa using h)), (fun h => by simpa [upd] using d3 (by simpa using h)), (fun h => by simpa [upd] using d4 (by simpa using h)), (fun h => by simpa [upd] using d5 (by simpa using h)), (fun _ => rfl), (fun h => by simpa [upd] using d7 (by simpa using h)), (fun h => by simpa [upd] using d8 (by simpa using h)), (fun h => by simpa [upd] using d10 (by simpa using h)), (fun h => by simpa [upd] using d11 (by simpa using h)), (fun h => by simpa [upd] using d13 (by simpa using h)), (fun h => by simpa [upd] using d14 (by simpa using h)), (fun h => by simpa [upd] using d15 (by simpa using h))⟩⟩
    · have q := d6 hdep
      rcases hm : (mayT f && mayT g) with _ | _
      · rw [hm] at q
        simp (disch := omega) only [push_cast, Nat.reduceEqDiff, q]
        exact ⟨_, fun w hw => hw, ⟨rfl, (by simpa [upd] using h2), (by simpa [upd] using h3), ⟨X, Y, rfl, (by simpa [upd] using hX), (by simpa [upd] using hY)⟩, (fun h => by simpa [upd] using d0 (by simpa using h)), (fun h => by simpa [upd] using d1 (by simpa using h)), (fun h => by simpa [upd] using d2 (by simpa using h)), (fun h => by simpa [upd] using d3 (by simpa using h)), (fun h => by simpa [upd] using d4 (by simpa using h)), (fun h => by simpa [upd] using d5 (by simpa using h)), (fun h => by simpa [upd] using d6 (by simpa using h)), (fun _ => fun hh => by rw [hm] at hh; cases hh), (fun h => by simpa [upd] using d8 (by simpa using h)), (fun h => by simpa [upd] using d10 (by simpa using h)), (fun h => by simpa [upd] using d11 (by simpa using h)), (fun h => by simpa [upd] using d13 (by simpa using h)), (fun h => by simpa [upd] using d14 (by simpa using h)), (fun h => by simpa [upd] using d15 (by simpa using h))⟩⟩
      · rw [hm] at q
        simp (disch := omega) only [push_cast, Nat.reduceEqDiff, q, h2]
        refine loadX_agg Shp.eq (hm2 X Y) rfl rfl ?_
        simp (disch := omega) only [push_cast, Nat.reduceEqDiff]
        exact ⟨_, fun w hw => hw, ⟨rfl, (by simpa [upd] using h2), (by simpa [upd] using h3), ⟨X, Y, rfl, (by simpa [upd] using hX), (by simpa [upd] using hY)⟩, (fun h => by simpa [upd] using d0 (by simpa using h)), (fun h => by simpa [upd] using d1 (by simpa using h)), (fun h => by simpa [upd] using d2 (by simpa using h)), (fun h => by simpa [upd] using d3 (by simpa using h)), (fun h => by simpa [upd] using d4 (by simpa using h)), (fun h => by simpa [upd] using d5 (by simpa using h)), (fun h => by simpa [upd] using d6 (by simpa using h)), (fun _ => fun _ => rfl), (fun h => by simpa [upd] using d8 (by simpa using h)), (fun h => by simpa [upd] using d10 (by simpa using h)), (fun h => by simpa [upd] using d11 (by simpa using h)), (fun h => by simpa [upd] using d13 (by simpa using h)), (fun h => by simpa [upd] using d14 (by simpa using h)), (fun h => by simpa [upd] using d15 (by simpa using h))⟩⟩
    · have q := d6 hdep.1
      rcases hm : (mayT f && mayT g) with _ | _
      · rw [hm] at q
        simp (disch := omega) only [push_cast, Nat.reduceEqDiff, q]
        exact ⟨_, fun w hw => hw, ⟨rfl, (by simpa [upd] using h2), (by simpa [upd] using h3), ⟨X, Y, rfl, (by simpa [upd] using hX), (by simpa [upd] using hY)⟩, (fun h => by simpa [upd] using d0 (by simpa using h)), (fun h => by simpa [upd] using d1 (by simpa using h)), (fun h => by simpa [upd] using d2 (by simpa using h)), (fun h => by simpa [upd] using d3 (by simpa using h)), (fun h => by simpa [upd] using d4 (by simpa using h)), (fun h => by simpa [upd] using d5 (by simpa using h)), (fun h => by simpa [upd] using d6 (by simpa using h)), (fun h => by simpa [upd] using d7 (by simpa using h)), (fun _ => fun hh => by rw [hm] at hh; cases hh), (fun h => by simpa [upd] using d10 (by simpa using h)), (fun h => by simpa [upd] using d11 (by simpa using h)), (fun h => by simpa [upd] using d13 (by simpa using h)), (fun h => by simpa [upd] using d14 (by simpa using h)), (fun h => by simpa [upd] using d15 (by simpa using h))⟩⟩
      · rw [hm] at q
        have q2 := d7 hdep.2 hm
        simp (disch := omega) only [push_cast, Nat.reduceEqDiff, q, q2]
        refine callV en_51 (callX_is (fun w' hw' => holderR_walk w' lo (Nat.le_trans hlo hw'.size) f a c (hT.sy hlo hw' hLn)) ?_)
        simp (disch := omega) only [push_cast, Nat.reduceEqDiff]
        exact ⟨_, fun w hw => hw, ⟨rfl, (by simpa [upd] using h2), (by simpa [upd] using h3), ⟨X, Y, rfl, (by simpa [upd] using hX), (by simpa [upd] using hY)⟩, (fun h => by simpa [upd] using d0 (by simpa using h)), (fun h => by simpa [upd] using d1 (by simpa using h)), (fun h => by simpa [upd] using d2 (by simpa using h)), (fun h => by simpa [upd] using d3 (by simpa using h)), (fun h => by simpa [upd] using d4 (by simpa using h)), (fun h => by simpa [upd] using d5 (by simpa using h)), (fun h => by simpa [upd] using d6 (by simpa using h)), (fun h => by simpa [upd] using d7 (by simpa using h)), (fun _ => fun _ => rfl), (fun h => by simpa [upd] using d10 (by simpa using h)), (fun h => by simpa [upd] using d11 (by simpa using h)), (fun h => by simpa [upd] using d13 (by simpa using h)), (fun h => by simpa [upd] using d14 (by simpa using h)), (fun h => by simpa [upd] using d15 (by simpa using h))⟩⟩
    · have q := d6 hdep.1
      rcases hm : (mayT f && mayT g) with _ | _
      · rw [hm] at q
        simp (disch := omega) only [push_cast, Nat.reduceEqDiff, q]
        exact ⟨_, fun w hw => hw, ⟨rfl, (by simpa [upd] using h2), (by simpa [upd] using h3), ⟨X, Y, rfl, (by rcases hX with ⟨h, _⟩ | ⟨h, _⟩ <;> first | exact .inl ⟨h, fun _ => hm⟩ | (rw [hD] at h; cases h)), (by simpa [upd] using hY)⟩, (fun h => by simpa [upd] using d0 (by simpa using h)), (fun h => by simpa [upd] using d1 (by simpa using h)), (fun h => by simpa [upd] using d2 (by simpa using h)), (fun h => by simpa [upd] using d3 (by simpa using h)), (fun h => by simpa [upd] using d4 (by simpa using h)), (fun h => by simpa [upd] using d5 (by simpa using h)), (fun h => by simpa [upd] using d6 (by simpa using h)), (fun h => by simpa [upd] using d7 (by simpa using h)), (fun h => by simpa [upd] using d8 (by simpa using h)), (fun h => by simpa [upd] using d10 (by simpa using h)), (fun h => by simpa [upd] using d11 (by simpa using h)), (fun h => by simpa [upd] using d13 (by simpa using h)), (fun h => by simpa [upd] using d14 (by simpa using h)), (fun h => by simpa [upd] using d15 (by simpa using h))⟩⟩
      · rw [hm] at q
        have q2 := d8 hdep.2 hm
        simp (disch := omega) only [push_cast, Nat.reduceEqDiff, q, q2, Fld.cells]
        refine bs_22_1 (newI fun b hb hn => ?_)
        simp (disch := omega) only [push_cast, Nat.reduceEqDiff]
        obtain rfl : X = [] := by
          rcases hX with ⟨h, _⟩ | ⟨h, _⟩
          · exact h
          · rw [hD] at h; cases h
        exact ⟨_, fun w hw => hw, ⟨rfl, (by simpa [upd] using h2), (by simpa [upd] using h3), ⟨[_], Y, rfl, .inr ⟨by simp, b, hb, rfl, (by simp [upd])⟩, (by simpa [upd] using hY)⟩, (fun h => by simpa [upd] using d0 (by simpa using h)), (fun h => by simpa [upd] using d1 (by simpa using h)), (fun h => by simpa [upd] using d2 (by simpa using h)), (fun h => by simpa [upd] using d3 (by simpa using h)), (fun h => by simpa [upd] using d4 (by simpa using h)), (fun h => by simpa [upd] using d5 (by simpa using h)), (fun h => by simpa [upd] using d6 (by simpa using h)), (fun h => by simpa [upd] using d7 (by simpa using h)), (fun h => by simpa [upd] using d8 (by simpa using h)), (fun h => by simpa [upd] using d10 (by simpa using h)), (fun h => by simpa [upd] using d11 (by simpa using h)), (fun h => by simpa [upd] using d13 (by simpa using h)), (fun h => by simpa [upd] using d14 (by simpa using h)), (fun h => by simpa [upd] using d15 (by simpa using h))⟩⟩
    · have q := d6 hdep
      rcases hm : (mayT f && mayT g) with _ | _
      · rw [hm] at q
        simp (disch := omega) only [push_cast, Nat.reduceEqDiff, q]
        exact ⟨_, fun w hw => hw, ⟨rfl, (by simpa [upd] using h2), (by simpa [upd] using h3), ⟨X, Y, rfl, (by simpa [upd] using hX), (by simpa [upd] using hY)⟩, (fun h => by simpa [upd] using d0 (by simpa using h)), (fun h => by simpa [upd] using d1 (by simpa using h)), (fun h => by simpa [upd] using d2 (by simpa using h)), (fun h => by simpa [upd] using d3 (by simpa using h)), (fun h => by simpa [upd] using d4 (by simpa using h)), (fun h => by simpa [upd] using d5 (by simpa using h)), (fun h => by simpa [upd] using d6 (by simpa using h)), (fun h => by simpa [upd] using d7 (by simpa using h)), (fun h => by simpa [upd] using d8 (by simpa using h)), (fun _ => fun hh => by rw [hm] at hh; cases hh), (fun h => by simpa [upd] using d11 (by simpa using h)), (fun h => by simpa [upd] using d13 (by simpa using h)), (fun h => by simpa [upd] using d14 (by simpa using h)), (fun h => by simpa [upd] using d15 (by simpa using h))⟩⟩
      · rw [hm] at q
        simp (disch := omega) only [push_cast, Nat.reduceEqDiff, q, h3]
        refine loadX_agg Shp.eq (hm3 X Y) rfl rfl ?_
        simp (disch := omega) only [push_cast, Nat.reduceEqDiff]
        exact ⟨_, fun w hw => hw, ⟨rfl, (by simpa [upd] using h2), (by simpa [upd] using h3), ⟨X, Y, rfl, (by simpa [upd] using hX), (by simpa [upd] using hY)⟩, (fun h => by simpa [upd] using d0 (by simpa using h)), (fun h => by simpa [upd] using d1 (by simpa using h)), (fun h => by simpa [upd] using d2 (by simpa using h)), (fun h => by simpa [upd] using d3 (by simpa using h)), (fun h => by simpa [upd] using d4 (by simpa using h)), (fun h => by simpa [upd] using d5 (by simpa using h)), (fun h => by simpa [upd] using d6 (by simpa using h)), (fun h => by simpa [upd] using d7 (by simpa using h)), (fun h => by simpa [upd] using d8 (by simpa using h)), (fun _ => fun _ => rfl), (fun h => by simpa [upd] using d11 (by simpa using h)), (fun h => by simpa [upd] using d13 (by simpa using h)), (fun h => by simpa [upd] using d14 (by simpa using h)), (fun h => by simpa [upd] using d15 (by simpa using h))⟩⟩
    · have q := d6 hdep.1
      rcases hm : (mayT f && mayT g) with _ | _
      · rw [hm] at q
        simp (disch := omega) only [push_cast, Nat.reduceEqDiff, q]
        exact ⟨_, fun w hw => hw, ⟨rfl, (by simpa [upd] using h2), (by simpa [upd] using h3), ⟨X, Y, rfl, (by simpa [upd] using hX), (by simpa [upd] using hY)⟩, (fun h => by simpa [upd] using d0 (by simpa using h)), (fun h => by simpa [upd] using d1 (by simpa using h)), (fun h => by simpa [upd] using d2 (by simpa using h)), (fun h => by simpa [upd] using d3 (by simpa using h)), (fun h => by simpa [upd] using d4 (by simpa using h)), (fun h => by simpa [upd] using d5 (by simpa using h)), (fun h => by simpa [upd] using d6 (by simpa using h)), (fun h => by simpa [upd] using d7 (by simpa using h)), (fun h => by simpa [upd] using d8 (by simpa using h)), (fun h => by simpa [upd] using d10 (by simpa using h)), (fun _ => fun hh => by rw [hm] at hh; cases hh), (fun h => by simpa [upd] using d13 (by simpa using h)), (fun h => by simpa [upd] using d14 (by simpa using h)), (fun h => by simpa [upd] using d15 (by simpa using h))⟩⟩
      · rw [hm] at q
        have q2 := d10 hdep.2 hm
        simp (disch := omega) only [push_cast, Nat.reduceEqDiff, q, q2]
        refine callV en_51 (callX_is (fun w' hw' => holderR_walk w' lo (Nat.le_trans hlo hw'.size) g a' c' (hT'.sy hlo hw' hLn)) ?_)
        simp (disch := omega) only [push_cast, Nat.reduceEqDiff]
        exact ⟨_, fun w hw => hw, ⟨rfl, (by simpa [upd] using h2), (by simpa [upd] using h3), ⟨X, Y, rfl, (by simpa [upd] using hX), (by simpa [upd] using hY)⟩, (fun h => by simpa [upd] using d0 (by simpa using h)), (fun h => by simpa [upd] using d1 (by simpa using h)), (fun h => by simpa [upd] using d2 (by simpa using h)), (fun h => by simpa [upd] using d3 (by simpa using h)), (fun h => by simpa [upd] using d4 (by simpa using h)), (fun h => by simpa [upd] using d5 (by simpa using h)), (fun h => by simpa [upd] using d6 (by simpa using h)), (fun h => by simpa [upd] using d7 (by simpa using h)), (fun h => by simpa [upd] using d8 (by simpa using h)), (fun h => by simpa [upd] using d10 (by simpa using h)), (fun _ => fun _ => rfl), (fun h => by simpa [upd] using d13 (by simpa using h)), (fun h => by simpa [upd] using d14 (by simpa using h)), (fun h => by simpa [upd] using d15 (by simpa using h))⟩⟩
    · have q := d6 hdep.1
      rcases hm : (mayT f && mayT g) with _ | _
      · rw [hm] at q
        simp (disch := omega) only [push_cast, Nat.reduceEqDiff, q]
        exact ⟨_, fun w hw => hw, ⟨rfl, (by simpa [upd] using h2), (by simpa [upd] using h3), ⟨X, Y, rfl, (by simpa [upd] using hX), (by rcases hY with ⟨h, _⟩ | ⟨h, _⟩ <;> first | exact .inl ⟨h, fun _ => hm⟩ | (rw [hD] at h; cases h))⟩, (fun h => by simpa [upd] using d0 (by simpa using h)), (fun h => by simpa [upd] using d1 (by simpa using h)), (fun h => by simpa [upd] using d2 (by simpa using h)), (fun h => by simpa [upd] using d3 (by simpa using h)), (fun h => by simpa [upd] using d4 (by simpa using h)), (fun h => by simpa [upd] using d5 (by simpa using h)), (fun h => by simpa [upd] using d6 (by simpa using h)), (fun h => by simpa [upd] using d7 (by simpa using h)), (fun h => by simpa [upd] using d8 (by simpa using h)), (fun h => by simpa [upd] using d10 (by simpa using h)), (fun h => by simpa [upd] using d11 (by simpa using h)), (fun h => by simpa [upd] using d13 (by simpa using h)), (fun h => by simpa [upd] using d14 (by simpa using h)), (fun h => by simpa [upd] using d15 (by simpa using h))⟩⟩
      · rw [hm] at q
        have q2 := d11 hdep.2 hm
        simp (disch := omega) only [push_cast, Nat.reduceEqDiff, q, q2, Fld.cells]
        refine bs_22_1 (newI fun b hb hn => ?_)
        simp (disch := omega) only [push_cast, Nat.reduceEqDiff]
        obtain rfl : Y = [] := by
          rcases hY with ⟨h, _⟩ | ⟨h, _⟩
          · exact h
          · rw [hD] at h; cases h
        exact ⟨_, fun w hw => hw.perm List.perm_middle.symm, ⟨rfl, (by simpa [upd] using h2), (by simpa [upd] using h3), ⟨X, [_], rfl, (by simpa [upd] using hX), .inr ⟨by simp, b, hb, rfl, (by simp [upd])⟩⟩, (fun h => by simpa [upd] using d0 (by simpa using h)), (fun h => by simpa [upd] using d1 (by simpa using h)), (fun h => by simpa [upd] using d2 (by simpa using h)), (fun h => by simpa [upd] using d3 (by simpa using h)), (fun h => by simpa [upd] using d4 (by simpa using h)), (fun h => by simpa [upd] using d5 (by simpa using h)), (fun h => by simpa [upd] using d6 (by simpa using h)), (fun h => by simpa [upd] using d7 (by simpa using h)), (fun h => by simpa [upd] using d8 (by simpa using h)), (fun h => by simpa [upd] using d10 (by simpa using h)), (fun h => by simpa [upd] using d11 (by simpa using h)), (fun h => by simpa [upd] using d13 (by simpa using h)), (fun h => by simpa [upd] using d14 (by simpa using h)), (fun h => by simpa [upd] using d15 (by simpa using h))⟩⟩
    · have q := d6 hdep.1
      rcases hm : (mayT f && mayT g) with _ | _
      · rw [hm] at q
        simp (disch := omega) only [push_cast, Nat.reduceEqDiff, q]
        exact ⟨_, fun w hw => hw, ⟨rfl, (by simpa [upd] using h2), (by simpa [upd] using h3), ⟨X, Y, rfl, (by simpa [upd] using hX), (by simpa [upd] using hY)⟩, (fun h => by simpa [upd] using d0 (by simpa using h)), (fun h => by simpa [upd] using d1 (by simpa using h)), (fun h => by simpa [upd] using d2 (by simpa using h)), (fun h => by simpa [upd] using d3 (by simpa using h)), (fun h => by simpa [upd] using d4 (by simpa using h)), (fun h => by simpa [upd] using d5 (by simpa using h)), (fun h => by simpa [upd] using d6 (by simpa using h)), (fun h => by simpa [upd] using d7 (by simpa using h)), (fun h => by simpa [upd] using d8 (by simpa using h)), (fun h => by simpa [upd] using d10 (by simpa using h)), (fun h => by simpa [upd] using d11 (by simpa using h)), (fun _ => fun hh => by rw [hm] at hh; cases hh), (fun h => by simpa [upd] using d14 (by simpa using h)), (fun h => by simpa [upd] using d15 (by simpa using h))⟩⟩
      · rw [hm] at q
        obtain ⟨m1, m2⟩ : mayT f = true ∧ mayT g = true := by simpa using hm
        obtain ⟨b9, hb9, rfl, q9⟩ : ∃ b, w.heap.size ≤ b ∧ X = [(b, Obj.cells ((holdR f).cells a c).toArray 38 (0, 0))] ∧ e 14 = .slice (some ⟨b, 0, none⟩) 1 1 := by
          rcases hX with ⟨_, h⟩ | ⟨_, h⟩
          · rw [h hdep.2.1] at hm; cases hm
          · exact h
        obtain ⟨b12, hb12, rfl, q12⟩ : ∃ b, w.heap.size ≤ b ∧ Y = [(b, Obj.cells ((holdR g).cells a' c').toArray 38 (0, 0))] ∧ e 17 = .slice (some ⟨b, 0, none⟩) 1 1 := by
          rcases hY with ⟨_, h⟩ | ⟨_, h⟩
          · rw [h hdep.2.2] at hm; cases hm
          · exact h
        simp (disch := omega) only [push_cast, Nat.reduceEqDiff, q, q9, q12]
        refine callV en_49 (callX_is (fun w' hw' => alikeR_walk w' w'.heap.size (Nat.le_refl _) [holdR f] [holdR g] (some ⟨b9, 0, none⟩) (some ⟨b12, 0, none⟩) 1 1 (.cons (hw'.lt (.head _)) hT.hc (by simp [holdR, Fld.nm]) hT.hc2 (At.of_own hw' (.head _) rfl) ((hT.sy hlo hw' hLn).hr.weaken (Nat.le_trans hlo hw'.size)) (.nil _)) (.cons (hw'.lt (.tail _ (.head _))) hT'.hc (by simp [holdR, Fld.nm]) hT'.hc2 (At.of_own hw' (.tail _ (.head _)) rfl) ((hT'.sy hlo hw' hLn).hr.weaken (Nat.le_trans hlo hw'.size)) (.nil _)) (by simp) (by omega) (by simp) (by omega) false) ?_)
        rw [List.take_of_length_le (by have := few_nodes (l := [holdR f]) (nt := []) (by rw [hold_may]; exact m1); omega), List.take_of_length_le (by have := few_nodes (l := [holdR g]) (nt := []) (by rw [hold_may]; exact m2); omega)]
        rw [show alikeN false [holdR f].length [holdR g].length (nd 65 [] false [holdR f]) (nd 65 [] false [holdR g]) = sameF f g from alikeT_law m1 m2]
        simp (disch := omega) only [push_cast, Nat.reduceEqDiff]
        exact ⟨_, fun w hw => hw, ⟨rfl, (by simpa [upd] using h2), (by simpa [upd] using h3), ⟨[_], [_], rfl, (by simpa [upd] using hX), (by simpa [upd] using hY)⟩, (fun h => by simpa [upd] using d0 (by simpa using h)), (fun h => by simpa [upd] using d1 (by simpa using h)), (fun h => by simpa [upd] using d2 (by simpa using h)), (fun h => by simpa [upd] using d3 (by simpa using h)), (fun h => by simpa [upd] using d4 (by simpa using h)), (fun h => by simpa [upd] using d5 (by simpa using h)), (fun h => by simpa [upd] using d6 (by simpa using h)), (fun h => by simpa [upd] using d7 (by simpa using h)), (fun h => by simpa [upd] using d8 (by simpa using h)), (fun h => by simpa [upd] using d10 (by simpa using h)), (fun h => by simpa [upd] using d11 (by simpa using h)), (fun _ => fun _ => rfl), (fun h => by simpa [upd] using d14 (by simpa using h)), (fun h => by simpa [upd] using d15 (by simpa using h))⟩⟩
    · have q := d6 hdep.1
      rcases hm : (mayT f && mayT g) with _ | _
      · rw [hm] at q
        simp (disch := omega) only [push_cast, Nat.reduceEqDiff, q]
        exact ⟨_, fun w hw => hw, ⟨rfl, (by simpa [upd] using h2), (by simpa [upd] using h3), ⟨X, Y, rfl, (by simpa [upd] using hX), (by simpa [upd] using hY)⟩, (fun h => by simpa [upd] using d0 (by simpa using h)), (fun h => by simpa [upd] using d1 (by simpa using h)), (fun h => by simpa [upd] using d2 (by simpa using h)), (fun h => by simpa [upd] using d3 (by simpa using h)), (fun h => by simpa [upd] using d4 (by simpa using h)), (fun h => by simpa [upd] using d5 (by simpa using h)), (fun h => by simpa [upd] using d6 (by simpa using h)), (fun h => by simpa [upd] using d7 (by simpa using h)), (fun h => by simpa [upd] using d8 (by simpa using h)), (fun h => by simpa [upd] using d10 (by simpa using h)), (fun h => by simpa [upd] using d11 (by simpa using h)), (fun h => by simpa [upd] using d13 (by simpa using h)), (fun _ => by unfold alikeTP; rw [hm]; rfl), (fun h => by simpa [upd] using d15 (by simpa using h))⟩⟩
      · have q2 := d13 hdep.2 hm
        rw [hm] at q
        simp (disch := omega) only [push_cast, Nat.reduceEqDiff, q, q2]
        exact ⟨_, fun w hw => hw, ⟨rfl, (by simpa [upd] using h2), (by simpa [upd] using h3), ⟨X, Y, rfl, (by simpa [upd] using hX), (by simpa [upd] using hY)⟩, (fun h => by simpa [upd] using d0 (by simpa using h)), (fun h => by simpa [upd] using d1 (by simpa using h)), (fun h => by simpa [upd] using d2 (by simpa using h)), (fun h => by simpa [upd] using d3 (by simpa using h)), (fun h => by simpa [upd] using d4 (by simpa using h)), (fun h => by simpa [upd] using d5 (by simpa using h)), (fun h => by simpa [upd] using d6 (by simpa using h)), (fun h => by simpa [upd] using d7 (by simpa using h)), (fun h => by simpa [upd] using d8 (by simpa using h)), (fun h => by simpa [upd] using d10 (by simpa using h)), (fun h => by simpa [upd] using d11 (by simpa using h)), (fun h => by simpa [upd] using d13 (by simpa using h)), (fun _ => by unfold alikeTP; rw [hm]; rfl), (fun h => by simpa [upd] using d15 (by simpa using h))⟩⟩
    · have q := d14 hdep
      simp (disch := omega) only [push_cast, Nat.reduceEqDiff, q]
      exact ⟨_, fun w hw => hw, ⟨rfl, (by simpa [upd] using h2), (by simpa [upd] using h3), ⟨X, Y, rfl, (by simpa [upd] using hX), (by simpa [upd] using hY)⟩, (fun h => by simpa [upd] using d0 (by simpa using h)), (fun h => by simpa [upd] using d1 (by simpa using h)), (fun h => by simpa [upd] using d2 (by simpa using h)), (fun h => by simpa [upd] using d3 (by simpa using h)), (fun h => by simpa [upd] using d4 (by simpa using h)), (fun h => by simpa [upd] using d5 (by simpa using h)), (fun h => by simpa [upd] using d6 (by simpa using h)), (fun h => by simpa [upd] using d7 (by simpa using h)), (fun h => by simpa [upd] using d8 (by simpa using h)), (fun h => by simpa [upd] using d10 (by simpa using h)), (fun h => by simpa [upd] using d11 (by simpa using h)), (fun h => by simpa [upd] using d13 (by simpa using h)), (fun h => by simpa [upd] using d14 (by simpa using h)), (fun _ => rfl)⟩⟩
  · intro D e ds L hD hI
    have hLn := hI.new hb2 hb3
    have h4 := hI.d15 (hD (15, [14]) (by simp))
    obtain rfl := hI.hds
    simp (disch := omega) only [push_cast, Nat.reduceEqDiff, h4]
    exact finIs hLn rfl
  · exact ⟨rfl, rfl, rfl, ⟨[], [], rfl, .inl ⟨rfl, fun h => by cases h⟩, .inl ⟨rfl, fun h => by cases h⟩⟩, (fun h => by cases h), (fun h => by cases h), (fun h => by cases h), (fun h => by cases h), (fun h => by cases h), (fun h => by cases h), (fun h => by cases h), (fun h => by cases h), (fun h => by cases h), (fun h => by cases h), (fun h => by cases h), (fun h => by cases h), (fun h => by cases h), (fun h => by cases h)⟩
end Go.Proofs.YtgbafmjgfbgeoaaDoor
