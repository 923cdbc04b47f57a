/- YtgbafmjgfbgeoaaDoor: plain laws: the type of a field that may be may be; how deep a schema is. -/
import Derived.Test.YtgbafmjgfbgeoaaDoorW67
import Derived.Test.YtgbafmjgfbgeoaaDoorW36
namespace Go.Proofs.YtgbafmjgfbgeoaaDoor
open Go Go.K
set_option linter.unusedVariables false
set_option linter.unusedSimpArgs false
theorem may_field {l : List Fld} {nt : List NoteT} {f : Fld} (h : mayP l nt = true) (hf : f ∈ l) : mayP [f] [] = true := may_less (List.singleton_sublist.2 hf) h (.inr rfl)
theorem ids_cons (x y : FNode) (l : List FNode) (hk : x.f.k = y.f.k) (hi : x.f.id = y.f.id) : idsOf (x :: l) = idsOf (y :: l) := by
  unfold idsOf
  by_cases h : x.f.k = 19
  · have h' : y.f.k = 19 := by rw [← hk]; exact h
    simp [h, h', hi]
  · have h' : ¬ y.f.k = 19 := by rw [← hk]; exact h
    simp [h, h']
theorem nulls_hold (f : Fld) : nullsB (holdK f) = true := by
  unfold nullsB
  show (if f.k = 1 then (holdK f).nl else if f.k = 18 then !(holdK f).nl else if f.k = 20 then (holdK f).nl == (f.sub.head?.map Fld.nl).getD false else true) = true
  have hn : (holdK f).nl = (decide (f.k = 1) || (decide (f.k = 20) && (decide (0 < f.sub.length) && subNl f))) := rfl
  rw [hn]
  split
  · rename_i h; simp [h]
  split
  · rename_i h; simp [h]
  split
  · rename_i h
    simp only [h, subNl]
    cases f.sub <;> simp
  · rfl
theorem may_hold {f : Fld} (h : mayP [f] [] = true) : mayT f = true := by
  refine mayP_of (by simp) (by simp) rfl fun k => ?_
  have h4 := (checkP_zero h).2.2.2 k
  rw [nd_one] at h4 ⊢
  have hs : nd 64 [0] ((holdK f).k == 19) (holdK f).sub = nd 64 [0] (f.k == 19) f.sub := rfl
  rw [hs]
  cases k with
  | zero =>
    simp only [wrongAt, List.getElem?_cons_zero] at h4 ⊢
    unfold wrongN at h4 ⊢
    have hnm : isName (holdK f).nm := (by decide : isName [97])
    by_cases q1 : 64 < ([0] : List Nat).length
    · simp at q1
    rw [if_neg q1] at h4 ⊢
    rw [if_neg (by omega)] at h4 ⊢
    rw [if_neg (fun hh => hh hnm)]
    rw [if_neg (by simp)]
    by_cases q3 : ¬ isName f.nm
    · rw [if_pos q3] at h4; cases h4
    rw [if_neg q3, if_neg (by simp)] at h4
    by_cases q5 : ¬ shapedF f
    · rw [if_pos q5] at h4; cases h4
    rw [if_neg q5] at h4
    rw [if_neg (show ¬ ¬ shapedF (holdK f) from q5)]
    rw [if_neg (by rw [nulls_hold]; simp)]
    by_cases q6 : nullsB f = false
    · rw [if_pos q6] at h4; cases h4
    rw [if_neg q6] at h4
    exact h4
  | succ k =>
    simp only [wrongAt, List.getElem?_cons_succ, List.take_succ_cons] at h4 ⊢
    rw [ids_cons ⟨[0], [], holdK f, false⟩ ⟨[0], [], f, false⟩ _ rfl rfl]
    exact h4
/-- How long the ways are. -/
def lensL : Nat → Nat → List Fld → List Nat
  | 0, _, _ => []
  | d + 1, n, l => l.flatMap fun f => (n + 1) :: lensL d (n + 1) f.sub
theorem lens_nd : ∀ (d : Nat) (path : List Nat) (ind : Bool) (l : List Fld), (nd d path ind l).map (fun x => x.path.length) = lensL d path.length l
  | 0, _, _, _ => rfl
  | d + 1, path, ind, l => by
    rw [nd, lensL, List.map_flatMap, ← zip_flat (fun f => (path.length + 1) :: lensL d (path.length + 1) f.sub) l 0]
    congr 1
    funext p
    rw [List.map_cons, lens_nd d]
    simp
def mx (l : List Nat) : Nat := l.foldl max 0
theorem mx_from : ∀ (l : List Nat) (a : Nat), l.foldl max a = max a (mx l)
  | [], a => by simp [mx]
  | x :: l, a => by
    have h1 := mx_from l (max a x)
    have h2 := mx_from l (max 0 x)
    simp only [mx, List.foldl_cons] at *
    rw [h1, h2]
    omega
theorem mx_append (a b : List Nat) : mx (a ++ b) = max (mx a) (mx b) := by
  have := mx_from b (mx a)
  simp only [mx, List.foldl_append] at *
  exact this
theorem dmax_mx (l : List FNode) : dmax l = mx (l.map fun x => x.path.length) := by
  unfold dmax mx
  rw [List.foldl_map]
def dpN (f : Fld) : Nat := if mayT f then dmax (nd 64 [] false [holdK f]) else 0
theorem depth_nat (f : Fld) : depthP f = (dpN f : Nat) := by
  unfold depthP dpN
  split <;> rfl
def mostN (l : List Fld) : Nat := l.foldl (fun m f => max m (dpN f)) 0
theorem most_take {l : List Fld} {k : Nat} {f : Fld} (h : l[k]? = some f) : mostN (l.take (k + 1)) = max (mostN (l.take k)) (dpN f) := by
  rw [List.take_add_one, h, Option.toList_some]
  unfold mostN
  rw [List.foldl_append]
  rfl
theorem most_flat : ∀ (l : List Fld), (∀ f ∈ l, mayT f = true) → ∀ a, l.foldl (fun m f => max m (dpN f)) a = max a (mx (lensL 64 0 l))
  | [], _, a => by simp [lensL, mx]
  | f :: l, h, a => by
    have ih := most_flat l (fun g hg => h g (.tail _ hg)) (max a (dpN f))
    rw [List.foldl_cons, ih]
    have hd : dpN f = mx (1 :: lensL 63 1 f.sub) := by
      unfold dpN
      rw [if_pos (h f (.head _)), dmax_mx, lens_nd]
      show mx (lensL 64 0 [holdK f]) = _
      rw [lensL, List.flatMap_cons, List.flatMap_nil, List.append_nil]
      rfl
    have hl : lensL 64 0 (f :: l) = (1 :: lensL 63 1 f.sub) ++ lensL 64 0 l := by
      show (f :: l).flatMap (fun f => (0 + 1) :: lensL 63 (0 + 1) f.sub) = _ ++ l.flatMap (fun f => (0 + 1) :: lensL 63 (0 + 1) f.sub)
      rw [List.flatMap_cons]
    rw [hl, mx_append, hd]
    omega
theorem most_law {l : List Fld} {nt : List NoteT} (h : mayP l nt = true) : mostN l = dmax (nd 64 [] false l) := by
  have := most_flat l (fun f hf => may_hold (may_field h hf)) 0
  unfold mostN
  rw [this, dmax_mx, lens_nd]
  simp
end Go.Proofs.YtgbafmjgfbgeoaaDoor
