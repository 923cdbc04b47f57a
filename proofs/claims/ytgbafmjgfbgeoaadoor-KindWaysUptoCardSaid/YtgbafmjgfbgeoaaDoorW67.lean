/- YtgbafmjgfbgeoaaDoor: plain laws: two fields that may be are alike just where their nodes are; the field by which a type is told; how deep a type is; its shape, its width and its parts. -/
import Derived.Test.YtgbafmjgfbgeoaaDoorW55
import Derived.Test.YtgbafmjgfbgeoaaDoorW61
namespace Go.Proofs.YtgbafmjgfbgeoaaDoor
open Go Go.K
set_option linter.unusedVariables false
set_option linter.unusedSimpArgs false
theorem nd_one (d : Nat) (f : Fld) : nd (d + 1) [] false [f] = ⟨[0], [], f, false⟩ :: nd d [0] (f.k == 19) f.sub := by
  simp [nd]
theorem nd_path_lt : ∀ (d : Nat) (path : List Nat) (ind : Bool) (l : List Fld) (x : FNode), x ∈ nd d path ind l → path.length < x.path.length
  | 0, path, ind, l, x, h => by simp [nd] at h
  | d + 1, path, ind, l, x, h => by
    simp only [nd, List.mem_flatMap, List.mem_cons] at h
    obtain ⟨p, _, rfl | h⟩ := h
    · simp
    · have := nd_path_lt d _ _ _ x h
      simp only [List.length_append, List.length_cons, List.length_nil] at this
      omega
theorem testN_inner {x y : FNode} (h : 1 < x.path.length) : testN false x y = testN true x y := by
  unfold testN
  rw [decide_eq_true h]
  rfl
theorem keys_of_tests {ns ms : List FNode} (hl : ns.length = ms.length) : (∀ (j : Nat) (x y : FNode), ns[j]? = some x → ms[j]? = some y → testN true x y = true) ↔ ns.map (fun x => keyF x.f) = ms.map (fun x => keyF x.f) := by
  constructor
  · intro h
    apply List.ext_getElem?
    intro j
    rw [List.getElem?_map, List.getElem?_map]
    rcases Nat.lt_or_ge j ns.length with hj | hj
    · have hj' : j < ms.length := by omega
      have := testN_key.1 (h j _ _ (List.getElem?_eq_getElem hj) (List.getElem?_eq_getElem hj'))
      rw [List.getElem?_eq_getElem hj, List.getElem?_eq_getElem hj', Option.map_some, Option.map_some, this]
    · rw [List.getElem?_eq_none hj, List.getElem?_eq_none (by omega)]
  · intro he j x y hx hy
    refine testN_key.2 ?_
    have := congrArg (·[j]?) he
    simp only [List.getElem?_map, hx, hy, Option.map_some, Option.some.injEq] at this
    exact this
/-- Two fields that may be are alike just where their nodes are. -/
theorem alikeF_law {f g : Fld} {nt nt' : List NoteT} (h : mayP [f] nt = true) (h' : mayP [g] nt' = true) : alikeN false 1 1 (nd 65 [] false [f]) (nd 65 [] false [g]) = ((f.nl == g.nl) && sameF f g) := by
  have hd : Dp 63 f.sub := may_dp h f (.head _)
  have hd' : Dp 63 g.sub := may_dp h' g (.head _)
  have hk := keys_nd 64 [0] (f.k == 19) f.sub
  have hk' := keys_nd 64 [0] (g.k == 19) g.sub
  rw [nd_one, nd_one]
  have hin : ∀ x ∈ nd 64 [0] (f.k == 19) f.sub, 1 < x.path.length := fun x hx => by
    have := nd_path_lt 64 _ _ _ x hx
    simpa using this
  generalize nd 64 [0] (f.k == 19) f.sub = ns at *
  generalize nd 64 [0] (g.k == 19) g.sub = ms at *
  rw [Bool.eq_iff_iff, sameF_eq]
  constructor
  · intro h1
    simp only [alikeN, Bool.and_eq_true, decide_eq_true_eq, List.length_cons] at h1
    obtain ⟨⟨_, h2⟩, h3⟩ := h1
    rw [zip_all (by simpa using h2)] at h3
    have h4 := h3 0 _ _ rfl rfl
    simp only [testN, sameNd, Bool.and_eq_true, decide_eq_true_eq, beq_iff_eq] at h4
    obtain ⟨⟨⟨⟨⟨⟨k1, k2⟩, k3⟩, k4⟩, k5⟩, k6⟩, _⟩ := h4
    have h5 : ∀ (j : Nat) (x y : FNode), ns[j]? = some x → ms[j]? = some y → testN true x y = true := fun j x y hx hy => by
      rw [← testN_inner (hin x (List.mem_of_getElem? hx))]
      exact h3 (j + 1) x y (by simpa using hx) (by simpa using hy)
    have he := (keys_of_tests (by omega)).1 h5
    rw [hk, hk', keys_dp 63 _ hd, keys_dp 63 _ hd'] at he
    have := (keys_inj 63 f.sub g.sub hd hd' k6 [] [] (by rw [he])).1
    simp [k1, k2, k3, k4, k5, this]
  · intro h1
    simp only [Bool.and_eq_true, decide_eq_true_eq, beq_iff_eq] at h1
    obtain ⟨h0, ⟨⟨⟨h2, h3⟩, h4⟩, h5⟩, h6⟩ := h1
    have he := keys_same 64 _ _ h6
    rw [← hk, ← hk'] at he
    have hlen := congrArg List.length he
    rw [List.length_map, List.length_map] at hlen
    have h7 := (keys_of_tests hlen).2 he
    simp only [alikeN, Bool.and_eq_true, decide_eq_true_eq]
    refine ⟨⟨trivial, by simpa using hlen⟩, (zip_all (by simpa using hlen)).2 fun j x y hx hy => ?_⟩
    cases j with
    | zero =>
      simp only [List.getElem?_cons_zero, Option.some.injEq] at hx hy
      subst hx; subst hy
      simp [testN, sameNd, h0, h2, h3, h4, h5, sameL_len h6]
    | succ j =>
      simp only [List.getElem?_cons_succ] at hx hy
      rw [testN_inner (hin x (List.mem_of_getElem? hx))]
      exact h7 j x y hx hy
/-- The first of the fields within is Nullable. -/
def subNl (f : Fld) : Bool := (f.sub.head?.map Fld.nl).getD false
/-- The field by which a type is told. -/
def holdK (f : Fld) : Fld := .mk [97] (decide (f.k = 1) || (decide (f.k = 20) && (decide (0 < f.sub.length) && subNl f))) f.k f.wd f.id f.ix f.sub
def holdR (f : Fld) : Fld := .mk [97] (decide (f.k = 1) || (decide (f.k = 20) && (decide (f.sub.length = 1) && subNl f))) f.k f.wd f.id f.ix f.sub
def mayT (f : Fld) : Bool := mayP [holdK f] []
theorem may_shaped {f : Fld} {nt : List NoteT} (h : mayP [f] nt = true) : shapedF f := (node_may h ⟨[0], [], f, false⟩ (by rw [nd_one]; exact .head _)).2
theorem mayT_shaped {f : Fld} (h : mayT f = true) : shapedF f := may_shaped (f := holdK f) h
theorem hold_same {f : Fld} (h : f.k = 20 → f.sub.length = 1) : holdR f = holdK f := by
  unfold holdR holdK
  by_cases h1 : f.k = 20
  · rw [h h1]; rfl
  · rw [decide_eq_false h1, Bool.false_and, Bool.false_and]
theorem runs_one {f : Fld} (h : shapedF f) (hk : f.k = 20) : f.sub.length = 1 := by
  obtain ⟨_, _, _, h4, h5⟩ := h
  rw [hk] at h4 h5
  simp [leastK, mostK] at h4 h5
  omega
theorem hold_may (f : Fld) : mayP [holdR f] [] = mayT f := by
  by_cases h : f.k = 20 → f.sub.length = 1
  · rw [hold_same h]; rfl
  · have hk : f.k = 20 ∧ f.sub.length ≠ 1 := by
      rcases Decidable.em (f.k = 20) with h1 | h1
      · exact ⟨h1, fun h2 => h fun _ => h2⟩
      · exact absurd (fun h2 => absurd h2 h1) h
    have h1 : mayP [holdR f] [] = false := by
      cases h1 : mayP [holdR f] [] with
      | false => rfl
      | true => exact absurd (runs_one (f := f) (may_shaped (f := holdR f) h1) hk.1) hk.2
    have h2 : mayT f = false := by
      cases h2 : mayT f with
      | false => rfl
      | true => exact absurd (runs_one (f := f) (may_shaped (f := holdK f) h2) hk.1) hk.2
    rw [h1, h2]
theorem hold_mayT {f : Fld} (h : mayT f = true) : holdR f = holdK f := hold_same (runs_one (mayT_shaped h))
/-- Types that may be are alike. -/
def alikeTP (f g : Fld) : Bool := mayT f && mayT g && sameF f g
theorem sameF_hold (f g : Fld) : sameF (holdK f) (holdK g) = sameF f g := by rw [sameF_eq, sameF_eq]; rfl
theorem sameF_nl {f g : Fld} (h : sameF f g = true) : (holdK f).nl = (holdK g).nl := by
  rw [sameF_eq] at h
  simp only [Bool.and_eq_true, decide_eq_true_eq] at h
  obtain ⟨⟨⟨⟨h1, _⟩, _⟩, _⟩, h5⟩ := h
  show (decide (f.k = 1) || (decide (f.k = 20) && (decide (0 < f.sub.length) && subNl f))) = (decide (g.k = 1) || (decide (g.k = 20) && (decide (0 < g.sub.length) && subNl g)))
  have : subNl f = subNl g := by
    unfold subNl
    rcases hs : f.sub with _ | ⟨x, l⟩
    · rcases hs' : g.sub with _ | ⟨y, m⟩
      · rfl
      · rw [hs, hs'] at h5; simp [sameL] at h5
    · rcases hs' : g.sub with _ | ⟨y, m⟩
      · rw [hs, hs'] at h5; simp [sameL] at h5
      · rw [hs, hs', sameL] at h5
        simp only [Bool.and_eq_true, beq_iff_eq] at h5
        simp [h5.1.1.2]
  rw [h1, this, sameL_len h5]
theorem alikeT_law {f g : Fld} (h : mayT f = true) (h' : mayT g = true) : alikeN false 1 1 (nd 65 [] false [holdR f]) (nd 65 [] false [holdR g]) = sameF f g := by
  rw [hold_mayT h, hold_mayT h', alikeF_law (f := holdK f) (g := holdK g) h h', sameF_hold]
  cases hs : sameF f g with
  | false => rw [Bool.and_false]
  | true => rw [sameF_nl hs, Bool.and_true]; simp
/-- How deep: the longest way. -/
def dmax (l : List FNode) : Nat := l.foldl (fun m x => max m x.path.length) 0
theorem dmax_snoc (l : List FNode) (x : FNode) : dmax (l ++ [x]) = max (dmax l) x.path.length := by
  unfold dmax; rw [List.foldl_append]; rfl
theorem dmax_take {l : List FNode} {k : Nat} {x : FNode} (h : l[k]? = some x) : dmax (l.take (k + 1)) = max (dmax (l.take k)) x.path.length := by
  rw [List.take_add_one, h]
  exact dmax_snoc _ _
theorem flat_congr {α β : Type} {f g : α → List β} : ∀ {l : List α}, (∀ x ∈ l, f x = g x) → l.flatMap f = l.flatMap g
  | [], _ => rfl
  | a :: l, h => by rw [List.flatMap_cons, List.flatMap_cons, h a (.head _), flat_congr fun x hx => h x (.tail _ hx)]
theorem nd_dp : ∀ (d : Nat) (path : List Nat) (ind : Bool) (l : List Fld), Dp d l → nd (d + 1) path ind l = nd d path ind l
  | 0, path, ind, l, h => by cases h; rfl
  | d + 1, path, ind, l, h => by
    rw [nd, nd]
    refine flat_congr fun p hp => ?_
    have hm : p.1 ∈ l := List.fst_mem_of_mem_zipIdx hp
    rw [nd_dp d _ _ p.1.sub (h p.1 hm)]
def depthP (f : Fld) : Int := if mayT f then (dmax (nd 64 [] false [holdK f]) : Nat) else 0
def depthR (f : Fld) : Int := if mayT f then (dmax ((nd 65 [] false [holdR f]).take 257) : Nat) else 0
theorem depth_law (f : Fld) : depthR f = depthP f := by
  unfold depthR depthP
  split
  · rename_i h
    rw [hold_mayT h, List.take_of_length_le (by have := few_nodes (l := [holdK f]) h; omega), nd_dp 64 _ _ _ (may_dp (l := [holdK f]) h)]
  · rfl
/-- The field of a Runs array's ends. -/
def endsF : Fld := .mk [101, 110, 100, 115] false 5 0 0 0 []
/-- The parts of an array of a type. -/
def partsP (f : Fld) : List Fld := if mayT f = true ∧ f.k ≠ 19 then (if f.k = 20 then endsF :: f.sub else f.sub) else []
def shapeP (f : Fld) : Int × Int × Int := if mayT f then (saysBufs f.k.toNat, (partsP f).length, if f.k = 19 then 1 else 0) else (-1, -1, -1)
def widthP (f : Fld) : Int := if mayT f then (if f.k = 14 then f.wd else if f.k = 19 then saysWidth f.ix.toNat else saysWidth f.k.toNat) else 0
end Go.Proofs.YtgbafmjgfbgeoaaDoor
/- YtgbafmjgfbgeoaaDoor: walks, part 67: types by themselves: the field that holds one, may it be, are two alike, how wide a row is. -/
namespace Go.Proofs.YtgbafmjgfbgeoaaDoor
open Go Go.K
set_option maxRecDepth 100000
set_option linter.unusedVariables false
set_option linter.unusedSimpArgs false
set_option maxHeartbeats 1000000
/-- A type that lies in memory below lo: its cells, and the fields within. -/
structure TyAt (w : World) (lo : Nat) (f : Fld) (a : Option Addr) (c : Nat) : Prop where
  hr : Rd w lo a f.sub
  hc : f.sub.length ≤ c
  hc2 : c ≤ 9223372036854775807
theorem TyAt.sy {w w' : World} {lo : Nat} {f : Fld} {a : Option Addr} {c : Nat} {M : Own} (h : TyAt w lo f a c) (hlo : lo ≤ w.heap.size) (hs : Sy w M w') (hM : ∀ p ∈ M, w.heap.size ≤ p.1) : TyAt w' lo f a c :=
  ⟨h.hr.sy hlo hs (fun p hp => Nat.le_trans hlo (hM p hp)), h.hc, h.hc2⟩
abbrev tyV (f : Fld) (a : Option Addr) (c : Nat) : Value := .agg (f.tcells a c).toArray
theorem holder_walk (w : World) (lo : Nat) (hlo : lo ≤ w.heap.size) (f : Fld) (a : Option Addr) (c : Nat) (hT : TyAt w lo f a c) :
    Calls Tryd.prog 45 #[tyV f a c] w (Rets w (Is (.agg ((holdK f).cells a c).toArray))) := by
  refine enterT (args := [tyV f a c]) Tryd.func45 rfl Tryd.ntmps45 (congrArg Array.toList Tryd.results45) (by kernel_rfl) (by simp) (Sy.refl w) ?_
  simp (disch := omega) only [push_cast, Nat.reduceEqDiff, Fld.tcells]
  refine newI (fun b1 hb1 hn1 => ?_)
  simp (disch := omega) only [push_cast, Nat.reduceEqDiff, Fld.tcells]
  refine newI (fun b2 hb2 hn2 => ?_)
  simp (disch := omega) only [push_cast, Nat.reduceEqDiff, Fld.tcells]
  refine loadX_agg Shp.eq mem1 rfl rfl ?_
  simp (disch := omega) only [push_cast, Nat.reduceEqDiff]
  refine newI (fun b3 hb3 hn3 => ?_)
  simp (disch := omega) only [push_cast, Nat.reduceEqDiff]
  refine storeX 0 rfl Siz.eq rfl rfl (by simp [Value.oneCell']) (by simp) ?_
  simp (disch := omega) only [push_cast, Nat.reduceEqDiff]
  have hL : ∀ x y z : Obj, ∀ p ∈ [(b3, x), (b2, y), (b1, z)], w.heap.size ≤ p.1 := fun x y z p hp => by
    simp only [List.mem_cons, List.mem_nil_iff, or_false] at hp
    rcases hp with rfl | rfl | rfl <;> assumption
  refine ldOne Shp.eq mem2 rfl ?_
  simp (disch := omega) only [push_cast, Nat.reduceEqDiff]
  have hval : ∀ v : Bool, v = (holdK f).nl → Value.agg #[str [97], .bool v, i64 f.k, i64 f.wd, i64 f.id, i64 f.ix, .slice a f.sub.length c] = .agg ((holdK f).cells a c).toArray := fun v hv => by subst hv; rfl
  by_cases h1 : f.k = 1
  · have d1 : decide (f.k = 1) = true := decide_eq_true h1
    simp (disch := omega) only [push_cast, Nat.reduceEqDiff, d1]
    repeat' (first | ((first | refine guardX_t rfl (fun h => ?_) (fun h => ?_) | refine guardX_f rfl (fun h => ?_) (fun h => ?_) | refine condX_d (fun h => ?_) (fun h => ?_) | (refine guardX_bt rfl (fun h => ?_) (fun h => ?_) <;> (try subst h)) | (refine guardX_bf rfl (fun h => ?_) (fun h => ?_) <;> (try subst h)) | (refine condX_b (fun h => ?_) (fun h => ?_) <;> (try subst h)) | refine ldOne Shp.eq (by (first | exact mem0 | exact mem1 | exact mem2 | exact mem3 | exact mem4 | exact mem5)) rfl ?_ | refine loadX_agg Shp.eq (by (first | exact mem0 | exact mem1 | exact mem2 | exact mem3 | exact mem4 | exact mem5)) rfl rfl ?_ | refine newI (fun b hb hn => ?_) | refine storeX 0 rfl Siz.eq rfl rfl (by simp [Value.oneCell']) (by simp) ?_ | refine storeX 1 rfl Siz.eq rfl rfl (by simp [Value.oneCell']) (by simp) ?_ | refine storeX 2 rfl Siz.eq rfl rfl (by simp [Value.oneCell']) (by simp) ?_ | refine storeX 3 rfl Siz.eq rfl rfl (by simp [Value.oneCell']) (by simp) ?_ | refine storeX 4 rfl Siz.eq rfl rfl (by simp [Value.oneCell']) (by simp) ?_ | refine storeX 5 rfl Siz.eq rfl rfl (by simp [Value.oneCell']) (by simp) ?_ | refine storeX 6 rfl Siz.eq rfl rfl (by simp [Value.oneCell']) (by simp) ?_) <;> simp (disch := omega) only [push_cast, Nat.reduceEqDiff, d1]) | (first | rw [V_cond] | rw [V_block]) <;> (try simp (disch := omega) only [push_cast, Nat.reduceEqDiff, d1]))
    exact finIs (hL _ _ _) (hval _ (by simp [holdK, Fld.nl, h1]))
  have d1 : decide (f.k = 1) = false := decide_eq_false h1
  simp (disch := omega) only [push_cast, Nat.reduceEqDiff, d1]
  repeat' (first | ((first | refine guardX_t rfl (fun h => ?_) (fun h => ?_) | refine guardX_f rfl (fun h => ?_) (fun h => ?_) | refine condX_d (fun h => ?_) (fun h => ?_) | (refine guardX_bt rfl (fun h => ?_) (fun h => ?_) <;> (try subst h)) | (refine guardX_bf rfl (fun h => ?_) (fun h => ?_) <;> (try subst h)) | (refine condX_b (fun h => ?_) (fun h => ?_) <;> (try subst h)) | refine ldOne Shp.eq (by (first | exact mem0 | exact mem1 | exact mem2 | exact mem3 | exact mem4 | exact mem5)) rfl ?_ | refine loadX_agg Shp.eq (by (first | exact mem0 | exact mem1 | exact mem2 | exact mem3 | exact mem4 | exact mem5)) rfl rfl ?_ | refine newI (fun b hb hn => ?_) | refine storeX 0 rfl Siz.eq rfl rfl (by simp [Value.oneCell']) (by simp) ?_ | refine storeX 1 rfl Siz.eq rfl rfl (by simp [Value.oneCell']) (by simp) ?_ | refine storeX 2 rfl Siz.eq rfl rfl (by simp [Value.oneCell']) (by simp) ?_ | refine storeX 3 rfl Siz.eq rfl rfl (by simp [Value.oneCell']) (by simp) ?_ | refine storeX 4 rfl Siz.eq rfl rfl (by simp [Value.oneCell']) (by simp) ?_ | refine storeX 5 rfl Siz.eq rfl rfl (by simp [Value.oneCell']) (by simp) ?_ | refine storeX 6 rfl Siz.eq rfl rfl (by simp [Value.oneCell']) (by simp) ?_) <;> simp (disch := omega) only [push_cast, Nat.reduceEqDiff, d1]) | (first | rw [V_cond] | rw [V_block]) <;> (try simp (disch := omega) only [push_cast, Nat.reduceEqDiff, d1]))
  rotate_left
  · exact finIs (hL _ _ _) (hval _ (by simp_all [holdK, Fld.nl]))
  · exact finIs (hL _ _ _) (hval _ (by simp_all [holdK, Fld.nl]))
  have hpos : 0 < f.sub.length := by omega
  obtain ⟨g, l, hl⟩ : ∃ g l, f.sub = g :: l := List.exists_cons_of_ne_nil (fun h0 => by rw [h0] at hpos; simp at hpos)
  have hr := hT.hr
  rw [hl] at hr
  obtain ⟨b', off, rfl, hb'⟩ := hr.some_of
  obtain ⟨a', c', x1, x2, x3⟩ := hr.get 0 rfl
  simp (disch := omega) only [push_cast, Nat.reduceEqDiff]
  refine ldF Shp.eq (x2.sub 1 [.bool g.nl] rfl) (out_of (fun p hp => Nat.lt_of_lt_of_le (Nat.lt_of_lt_of_le x1 hlo) (hL _ _ _ p hp))) ?_
  simp (disch := omega) only [push_cast, Nat.reduceEqDiff]
  repeat' (first | ((first | refine guardX_t rfl (fun h => ?_) (fun h => ?_) | refine guardX_f rfl (fun h => ?_) (fun h => ?_) | refine condX_d (fun h => ?_) (fun h => ?_) | (refine guardX_bt rfl (fun h => ?_) (fun h => ?_) <;> (try subst h)) | (refine guardX_bf rfl (fun h => ?_) (fun h => ?_) <;> (try subst h)) | (refine condX_b (fun h => ?_) (fun h => ?_) <;> (try subst h)) | refine ldOne Shp.eq (by (first | exact mem0 | exact mem1 | exact mem2 | exact mem3 | exact mem4 | exact mem5)) rfl ?_ | refine loadX_agg Shp.eq (by (first | exact mem0 | exact mem1 | exact mem2 | exact mem3 | exact mem4 | exact mem5)) rfl rfl ?_ | refine newI (fun b hb hn => ?_) | refine storeX 0 rfl Siz.eq rfl rfl (by simp [Value.oneCell']) (by simp) ?_ | refine storeX 1 rfl Siz.eq rfl rfl (by simp [Value.oneCell']) (by simp) ?_ | refine storeX 2 rfl Siz.eq rfl rfl (by simp [Value.oneCell']) (by simp) ?_ | refine storeX 3 rfl Siz.eq rfl rfl (by simp [Value.oneCell']) (by simp) ?_ | refine storeX 4 rfl Siz.eq rfl rfl (by simp [Value.oneCell']) (by simp) ?_ | refine storeX 5 rfl Siz.eq rfl rfl (by simp [Value.oneCell']) (by simp) ?_ | refine storeX 6 rfl Siz.eq rfl rfl (by simp [Value.oneCell']) (by simp) ?_) <;> simp (disch := omega) only [push_cast, Nat.reduceEqDiff]) | (first | rw [V_cond] | rw [V_block]) <;> (try simp (disch := omega) only [push_cast, Nat.reduceEqDiff]))
  refine finIs (hL _ _ _) (hval _ ?_)
  simp_all [holdK, Fld.nl, subNl]
theorem mayType_walk (w : World) (hs : SaysAt w) (lo : Nat) (hlo : lo ≤ w.heap.size) (f : Fld) (a : Option Addr) (c : Nat) (hT : TyAt w lo f a c) :
    Calls Tryd.prog 44 #[tyV f a c] w (Rets w (Is (.bool (mayT f)))) := by
  refine enterT (args := [tyV f a c]) Tryd.func44 rfl Tryd.ntmps44 (congrArg Array.toList Tryd.results44) (by kernel_rfl) (by simp) (Sy.refl w) ?_
  simp (disch := omega) only [push_cast, Nat.reduceEqDiff, Fld.tcells]
  refine newI (fun b1 hb1 hn1 => ?_)
  simp (disch := omega) only [push_cast, Nat.reduceEqDiff, Fld.tcells]
  refine loadX_agg Shp.eq mem0 rfl rfl ?_
  simp (disch := omega) only [push_cast, Nat.reduceEqDiff]
  have hL : ∀ x : Obj, ∀ p ∈ [(b1, x)], w.heap.size ≤ p.1 := fun x p hp => by rw [List.mem_singleton.1 hp]; exact hb1
  refine callV en_45 (callX_is (fun w' hw' => holder_walk w' lo (Nat.le_trans hlo hw'.size) f a c (hT.sy hlo hw' (hL _))) ?_)
  simp (disch := omega) only [push_cast, Nat.reduceEqDiff, Fld.cells]
  refine callV en_46 (callX_newR (fun w' hw' => checkField_walk w' (hs.mono hw' (hL _)) lo (Nat.le_trans hlo hw'.size) (holdK f) a c (hT.sy hlo hw' (hL _)).hr hT.hc hT.hc2 (by simp [holdK, Fld.nm])) (fun v M hM hMn ⟨pa, pc, hv, _⟩ => ?_))
  subst hv
  simp (disch := omega) only [push_cast, Nat.reduceEqDiff]
  refine finIs (fun p hp => ?_) ?_
  · rcases List.mem_cons.1 hp with rfl | hp
    · exact hb1
    · exact hM p hp
  · unfold mayT mayP; rfl
theorem alikeT_walk (w : World) (hs : SaysAt w) (lo : Nat) (hlo : lo ≤ w.heap.size) (f g : Fld) (a a' : Option Addr) (c c' : Nat) (hT : TyAt w lo f a c) (hT' : TyAt w lo g a' c') :
    Calls Tryd.prog 21 #[tyV f a c, tyV g a' c'] w (Rets w (Is (.bool (alikeTP f g)))) := by
  refine enterT (args := [tyV f a c, tyV g a' c']) Tryd.func21 rfl Tryd.ntmps21 (congrArg Array.toList Tryd.results21) (by kernel_rfl) (by simp) (Sy.refl w) ?_
  simp (disch := omega) only [push_cast, Nat.reduceEqDiff, Fld.tcells]
  refine newI (fun b1 hb1 hn1 => ?_)
  simp (disch := omega) only [push_cast, Nat.reduceEqDiff, Fld.tcells]
  refine newI (fun b2 hb2 hn2 => ?_)
  simp (disch := omega) only [push_cast, Nat.reduceEqDiff, Fld.tcells]
  refine loadX_agg Shp.eq mem1 rfl rfl ?_
  simp (disch := omega) only [push_cast, Nat.reduceEqDiff]
  have hL : ∀ x y : Obj, ∀ p ∈ [(b2, x), (b1, y)], w.heap.size ≤ p.1 := fun x y p hp => by
    simp only [List.mem_cons, List.mem_nil_iff, or_false] at hp
    rcases hp with rfl | rfl <;> assumption
  refine callV en_44 (callX_is (fun w' hw' => mayType_walk w' (hs.mono hw' (hL _ _)) lo (Nat.le_trans hlo hw'.size) f a c (hT.sy hlo hw' (hL _ _))) ?_)
  simp (disch := omega) only [push_cast, Nat.reduceEqDiff]
  rcases hm : mayT f with _ | _
  · simp (disch := omega) only [push_cast, Nat.reduceEqDiff]
    repeat' (first | ((first | refine guardX_t rfl (fun h => ?_) (fun h => ?_) | refine guardX_f rfl (fun h => ?_) (fun h => ?_) | refine condX_d (fun h => ?_) (fun h => ?_) | (refine guardX_bt rfl (fun h => ?_) (fun h => ?_) <;> (try subst h)) | (refine guardX_bf rfl (fun h => ?_) (fun h => ?_) <;> (try subst h)) | (refine condX_b (fun h => ?_) (fun h => ?_) <;> (try subst h)) | refine ldOne Shp.eq (by (first | exact mem0 | exact mem1 | exact mem2 | exact mem3 | exact mem4 | exact mem5)) rfl ?_ | refine loadX_agg Shp.eq (by (first | exact mem0 | exact mem1 | exact mem2 | exact mem3 | exact mem4 | exact mem5)) rfl rfl ?_ | refine newI (fun b hb hn => ?_) | refine storeX 0 rfl Siz.eq rfl rfl (by simp [Value.oneCell']) (by simp) ?_ | refine storeX 1 rfl Siz.eq rfl rfl (by simp [Value.oneCell']) (by simp) ?_ | refine storeX 2 rfl Siz.eq rfl rfl (by simp [Value.oneCell']) (by simp) ?_ | refine storeX 3 rfl Siz.eq rfl rfl (by simp [Value.oneCell']) (by simp) ?_ | refine storeX 4 rfl Siz.eq rfl rfl (by simp [Value.oneCell']) (by simp) ?_ | refine storeX 5 rfl Siz.eq rfl rfl (by simp [Value.oneCell']) (by simp) ?_ | refine storeX 6 rfl Siz.eq rfl rfl (by simp [Value.oneCell']) (by simp) ?_) <;> simp (disch := omega) only [push_cast, Nat.reduceEqDiff]) | (first | rw [V_cond] | rw [V_block]) <;> (try simp (disch := omega) only [push_cast, Nat.reduceEqDiff]))
    exact finIs (hL _ _) (by simp [alikeTP, hm])
  simp (disch := omega) only [push_cast, Nat.reduceEqDiff]
  refine loadX_agg Shp.eq mem0 rfl rfl ?_
  simp (disch := omega) only [push_cast, Nat.reduceEqDiff]
  refine callV en_44 (callX_is (fun w' hw' => mayType_walk w' (hs.mono hw' (hL _ _)) lo (Nat.le_trans hlo hw'.size) g a' c' (hT'.sy hlo hw' (hL _ _))) ?_)
  simp (disch := omega) only [push_cast, Nat.reduceEqDiff]
  rcases hm' : mayT g with _ | _
  · simp (disch := omega) only [push_cast, Nat.reduceEqDiff]
    repeat' (first | ((first | refine guardX_t rfl (fun h => ?_) (fun h => ?_) | refine guardX_f rfl (fun h => ?_) (fun h => ?_) | refine condX_d (fun h => ?_) (fun h => ?_) | (refine guardX_bt rfl (fun h => ?_) (fun h => ?_) <;> (try subst h)) | (refine guardX_bf rfl (fun h => ?_) (fun h => ?_) <;> (try subst h)) | (refine condX_b (fun h => ?_) (fun h => ?_) <;> (try subst h)) | refine ldOne Shp.eq (by (first | exact mem0 | exact mem1 | exact mem2 | exact mem3 | exact mem4 | exact mem5)) rfl ?_ | refine loadX_agg Shp.eq (by (first | exact mem0 | exact mem1 | exact mem2 | exact mem3 | exact mem4 | exact mem5)) rfl rfl ?_ | refine newI (fun b hb hn => ?_) | refine storeX 0 rfl Siz.eq rfl rfl (by simp [Value.oneCell']) (by simp) ?_ | refine storeX 1 rfl Siz.eq rfl rfl (by simp [Value.oneCell']) (by simp) ?_ | refine storeX 2 rfl Siz.eq rfl rfl (by simp [Value.oneCell']) (by simp) ?_ | refine storeX 3 rfl Siz.eq rfl rfl (by simp [Value.oneCell']) (by simp) ?_ | refine storeX 4 rfl Siz.eq rfl rfl (by simp [Value.oneCell']) (by simp) ?_ | refine storeX 5 rfl Siz.eq rfl rfl (by simp [Value.oneCell']) (by simp) ?_ | refine storeX 6 rfl Siz.eq rfl rfl (by simp [Value.oneCell']) (by simp) ?_) <;> simp (disch := omega) only [push_cast, Nat.reduceEqDiff]) | (first | rw [V_cond] | rw [V_block]) <;> (try simp (disch := omega) only [push_cast, Nat.reduceEqDiff]))
    exact finIs (hL _ _) (by simp [alikeTP, hm, hm'])
  simp (disch := omega) only [push_cast, Nat.reduceEqDiff]
  refine loadX_agg Shp.eq mem1 rfl rfl ?_
  simp (disch := omega) only [push_cast, Nat.reduceEqDiff]
  refine loadX_agg Shp.eq mem0 rfl rfl ?_
  simp (disch := omega) only [push_cast, Nat.reduceEqDiff]
  refine callV en_47 (callX_is (fun w' hw' => same_walk w' lo (Nat.le_trans hlo hw'.size) f g a a' c c' (hT.sy hlo hw' (hL _ _)).hr (hT'.sy hlo hw' (hL _ _)).hr hT.hc hT'.hc hT.hc2 hT'.hc2) ?_)
  simp (disch := omega) only [push_cast, Nat.reduceEqDiff]
  exact finIs (hL _ _) (by simp [alikeTP, hm, hm'])
theorem may_kinds {f : Fld} (h : mayT f = true) : (1 ≤ f.k ∧ f.k ≤ 20) ∧ (f.k = 19 → 3 ≤ f.ix ∧ f.ix ≤ 10) := by
  obtain ⟨h1, h2, h3, h4, h5⟩ := mayT_shaped h
  refine ⟨h1, fun hk => ?_⟩
  unfold toldP at h3
  rw [if_pos hk] at h3
  exact ⟨h3.2.2.1, h3.2.2.2⟩
theorem width_walk (w : World) (hs : SaysAt w) (lo : Nat) (hlo : lo ≤ w.heap.size) (f : Fld) (a : Option Addr) (c : Nat) (hT : TyAt w lo f a c) :
    Calls Tryd.prog 26 #[tyV f a c] w (Rets w (Is (i64 (widthP f)))) := by
  refine enterT (args := [tyV f a c]) Tryd.func26 rfl Tryd.ntmps26 (congrArg Array.toList Tryd.results26) (by kernel_rfl) (by simp) (Sy.refl w) ?_
  simp (disch := omega) only [push_cast, Nat.reduceEqDiff, Fld.tcells]
  refine newI (fun b1 hb1 hn1 => ?_)
  simp (disch := omega) only [push_cast, Nat.reduceEqDiff, Fld.tcells]
  refine loadX_agg Shp.eq mem0 rfl rfl ?_
  simp (disch := omega) only [push_cast, Nat.reduceEqDiff]
  have hL : ∀ x : Obj, ∀ p ∈ [(b1, x)], w.heap.size ≤ p.1 := fun x p hp => by rw [List.mem_singleton.1 hp]; exact hb1
  refine callV en_44 (callX_is (fun w' hw' => mayType_walk w' (hs.mono hw' (hL _)) lo (Nat.le_trans hlo hw'.size) f a c (hT.sy hlo hw' (hL _))) ?_)
  simp (disch := omega) only [push_cast, Nat.reduceEqDiff]
  rcases hm : mayT f with _ | _
  · simp only [Bool.not_false]
    rw [V_cond]
    simp (disch := omega) only [push_cast, Nat.reduceEqDiff]
    exact finIs (hL _) (by simp [widthP, hm])
  obtain ⟨hk, hx⟩ := may_kinds hm
  simp only [Bool.not_true]
  rw [V_cond]
  simp (disch := omega) only [push_cast, Nat.reduceEqDiff]
  refine ldOne Shp.eq mem0 rfl ?_
  simp (disch := omega) only [push_cast, Nat.reduceEqDiff]
  rw [V_block]
  simp (disch := omega) only [push_cast, Nat.reduceEqDiff]
  have hG : ∀ x : Obj, 0 ∉ ([(b1, x)] : Own).map (·.1) := fun x => out_of (fun p hp => Nat.lt_of_lt_of_le hs.1 (hL x p hp))
  repeat' (first | ((first | refine guardX_t rfl (fun h => ?_) (fun h => ?_) | refine guardX_f rfl (fun h => ?_) (fun h => ?_) | refine condX_d (fun h => ?_) (fun h => ?_) | (refine guardX_bt rfl (fun h => ?_) (fun h => ?_) <;> (try subst h)) | (refine guardX_bf rfl (fun h => ?_) (fun h => ?_) <;> (try subst h)) | (refine condX_b (fun h => ?_) (fun h => ?_) <;> (try subst h)) | refine ldOne Shp.eq (by (first | exact mem0 | exact mem1 | exact mem2 | exact mem3 | exact mem4 | exact mem5)) rfl ?_ | refine loadX_agg Shp.eq (by (first | exact mem0 | exact mem1 | exact mem2 | exact mem3 | exact mem4 | exact mem5)) rfl rfl ?_ | refine newI (fun b hb hn => ?_) | refine storeX 0 rfl Siz.eq rfl rfl (by simp [Value.oneCell']) (by simp) ?_ | refine storeX 1 rfl Siz.eq rfl rfl (by simp [Value.oneCell']) (by simp) ?_ | refine storeX 2 rfl Siz.eq rfl rfl (by simp [Value.oneCell']) (by simp) ?_ | refine storeX 3 rfl Siz.eq rfl rfl (by simp [Value.oneCell']) (by simp) ?_ | refine storeX 4 rfl Siz.eq rfl rfl (by simp [Value.oneCell']) (by simp) ?_ | refine storeX 5 rfl Siz.eq rfl rfl (by simp [Value.oneCell']) (by simp) ?_ | refine storeX 6 rfl Siz.eq rfl rfl (by simp [Value.oneCell']) (by simp) ?_) <;> simp (disch := omega) only [push_cast, Nat.reduceEqDiff]) | (first | rw [V_cond] | rw [V_block]) <;> (try simp (disch := omega) only [push_cast, Nat.reduceEqDiff]))
  · exact finIs (hL _) (by unfold widthP; rw [if_pos hm, if_pos h])
  · rename_i h14
    have hx := hx h
    refine ldF Shp.eq ((hs.2 f.ix.toNat (by omega)).sub 1 [i64 (saysWidth f.ix.toNat)] rfl) (hG _) ?_
    simp (disch := omega) only [push_cast, Nat.reduceEqDiff]
    exact finIs (hL _) (by unfold widthP; rw [if_pos hm, if_neg h14, if_pos h])
  · rename_i h14
    refine ldF Shp.eq ((hs.2 f.k.toNat (by omega)).sub 1 [i64 (saysWidth f.k.toNat)] rfl) (hG _) ?_
    simp (disch := omega) only [push_cast, Nat.reduceEqDiff]
    exact finIs (hL _) (by unfold widthP; rw [if_pos hm, if_neg h14, if_neg h])
theorem may_small {f : Fld} (h : mayT f = true) : okT f.sub = true ∧ f.sub.length ≤ 32 := by
  have h1 := (small_may (l := [holdK f]) h).1
  simp only [okT, Bool.and_eq_true] at h1
  exact ⟨((okS_iff (holdK f)).1 h1.1).2, ((okS_iff (holdK f)).1 h1.1).1⟩
theorem FldsM.one {M : Own} : ∀ {l : List Fld} {cs : List Value}, FldsM M l cs → ∀ u ∈ cs, u.oneCell' = true
  | [], cs, h, u, hu => by cases h; cases hu
  | f :: l, cs, ⟨a, c, r, h1, h2, h3, h4, h5, h6⟩, u, hu => by
    subst h1
    rcases List.mem_append.1 hu with hu | hu
    · simp only [Fld.cells, List.mem_cons, List.mem_nil_iff, or_false] at hu
      rcases hu with rfl | rfl | rfl | rfl | rfl | rfl | rfl <;> rfl
    · exact FldsM.one h6 u hu
theorem parts_walk (w : World) (hs : SaysAt w) (lo : Nat) (hlo : lo ≤ w.heap.size) (f : Fld) (a : Option Addr) (c : Nat) (hT : TyAt w lo f a c) :
    Calls Tryd.prog 28 #[tyV f a c] w (RetsN w (fun v M => CopyS v M (partsP f))) := by
  refine enterB (args := [tyV f a c]) Tryd.func28 rfl Tryd.ntmps28 (congrArg Array.toList Tryd.results28) (by kernel_rfl) (by simp) (Sy.refl w) ?_
  simp (disch := omega) only [push_cast, Nat.reduceEqDiff, Fld.tcells]
  refine newI (fun b1 hb1 hn1 => ?_)
  simp (disch := omega) only [push_cast, Nat.reduceEqDiff, Fld.tcells]
  refine loadX_agg Shp.eq mem0 rfl rfl ?_
  simp (disch := omega) only [push_cast, Nat.reduceEqDiff]
  have hL : ∀ x : Obj, ∀ p ∈ [(b1, x)], w.heap.size ≤ p.1 := fun x p hp => by rw [List.mem_singleton.1 hp]; exact hb1
  have hnil : ∀ v, partsP f = [] → v = .slice none 0 0 → ∀ x w', Sy w [(b1, x)] w' → RetsN w (fun v M => CopyS v M (partsP f)) (.returned v) w' := fun v hp hv x w' hw' => by
    subst hv
    refine ⟨_, [], rfl, hw'.end (hL x), by simp, none, 0, [], ?_, ?_, by omega, ?_, ?_, .inl hp⟩
    all_goals rw [hp]
    · rfl
    · exact Nat.le_refl _
    · rfl
    · rfl
  refine callV en_44 (callX_is (fun w' hw' => mayType_walk w' (hs.mono hw' (hL _)) lo (Nat.le_trans hlo hw'.size) f a c (hT.sy hlo hw' (hL _))) ?_)
  simp (disch := omega) only [push_cast, Nat.reduceEqDiff]
  rcases hm : mayT f with _ | _
  · simp only [Bool.not_false]
    simp (disch := omega) only [push_cast, Nat.reduceEqDiff]
    repeat' (first | ((first | refine guardX_t rfl (fun h => ?_) (fun h => ?_) | refine guardX_f rfl (fun h => ?_) (fun h => ?_) | refine condX_d (fun h => ?_) (fun h => ?_) | (refine guardX_bt rfl (fun h => ?_) (fun h => ?_) <;> (try subst h)) | (refine guardX_bf rfl (fun h => ?_) (fun h => ?_) <;> (try subst h)) | (refine condX_b (fun h => ?_) (fun h => ?_) <;> (try subst h)) | refine ldOne Shp.eq (by (first | exact mem0 | exact mem1 | exact mem2 | exact mem3 | exact mem4 | exact mem5)) rfl ?_ | refine loadX_agg Shp.eq (by (first | exact mem0 | exact mem1 | exact mem2 | exact mem3 | exact mem4 | exact mem5)) rfl rfl ?_ | refine newI (fun b hb hn => ?_) | refine storeX 0 rfl Siz.eq rfl rfl (by simp [Value.oneCell']) (by simp) ?_ | refine storeX 1 rfl Siz.eq rfl rfl (by simp [Value.oneCell']) (by simp) ?_ | refine storeX 2 rfl Siz.eq rfl rfl (by simp [Value.oneCell']) (by simp) ?_ | refine storeX 3 rfl Siz.eq rfl rfl (by simp [Value.oneCell']) (by simp) ?_ | refine storeX 4 rfl Siz.eq rfl rfl (by simp [Value.oneCell']) (by simp) ?_ | refine storeX 5 rfl Siz.eq rfl rfl (by simp [Value.oneCell']) (by simp) ?_ | refine storeX 6 rfl Siz.eq rfl rfl (by simp [Value.oneCell']) (by simp) ?_) <;> simp (disch := omega) only [push_cast, Nat.reduceEqDiff]) | (first | rw [V_cond] | rw [V_block]) <;> (try simp (disch := omega) only [push_cast, Nat.reduceEqDiff]))
    exact fun w' hw' => hnil _ (by simp [partsP, hm]) rfl _ w' hw'
  obtain ⟨hk, hx⟩ := may_kinds hm
  obtain ⟨sm1, sm2⟩ := may_small hm
  simp only [Bool.not_true]
  simp (disch := omega) only [push_cast, Nat.reduceEqDiff]
  refine ldOne Shp.eq mem0 rfl ?_
  simp (disch := omega) only [push_cast, Nat.reduceEqDiff]
  rw [V_cond]
  simp (disch := omega) only [push_cast, Nat.reduceEqDiff]
  refine condX_d (fun h19 => ?_) (fun h19 => ?_)
  · simp (disch := omega) only [push_cast, Nat.reduceEqDiff]
    exact fun w' hw' => hnil _ (by simp [partsP, h19]) rfl _ w' hw'
  simp (disch := omega) only [push_cast, Nat.reduceEqDiff]
  refine ldOne Shp.eq mem0 rfl ?_
  simp (disch := omega) only [push_cast, Nat.reduceEqDiff]
  refine callV en_39 (callX_new (S := fun v M => CopyS v M f.sub) (fun w' hw' => copied_walk w' lo f.sub a c (Nat.le_trans hlo hw'.size) (hT.sy hlo hw' (hL _)).hr hT.hc hT.hc2 sm2 sm1) (fun v M hM hMn hS => ?_))
  obtain ⟨a2, c2, xs2, rfl, z1, z2, z3, z4, z5⟩ := hS
  simp (disch := omega) only [push_cast, Nat.reduceEqDiff]
  refine ldOne Shp.eq (List.mem_append_right _ mem0) rfl ?_
  simp (disch := omega) only [push_cast, Nat.reduceEqDiff]
  rw [V_cond]
  simp (disch := omega) only [push_cast, Nat.reduceEqDiff]
  have hLM : ∀ x : Obj, ∀ p ∈ M ++ [(b1, x)], w.heap.size ≤ p.1 := fun x p hp => by
    rcases List.mem_append.1 hp with hp | hp
    · exact hM p hp
    · exact hL x p hp
  refine condX_d (fun h20 => ?_) (fun h20 => ?_)
  rotate_left
  · simp (disch := omega) only [push_cast, Nat.reduceEqDiff]
    repeat' (first | ((first | refine guardX_t rfl (fun h => ?_) (fun h => ?_) | refine guardX_f rfl (fun h => ?_) (fun h => ?_) | refine condX_d (fun h => ?_) (fun h => ?_) | (refine guardX_bt rfl (fun h => ?_) (fun h => ?_) <;> (try subst h)) | (refine guardX_bf rfl (fun h => ?_) (fun h => ?_) <;> (try subst h)) | (refine condX_b (fun h => ?_) (fun h => ?_) <;> (try subst h)) | refine ldOne Shp.eq (by (first | exact mem0 | exact mem1 | exact mem2 | exact mem3 | exact mem4 | exact mem5)) rfl ?_ | refine loadX_agg Shp.eq (by (first | exact mem0 | exact mem1 | exact mem2 | exact mem3 | exact mem4 | exact mem5)) rfl rfl ?_ | refine newI (fun b hb hn => ?_) | refine storeX 0 rfl Siz.eq rfl rfl (by simp [Value.oneCell']) (by simp) ?_ | refine storeX 1 rfl Siz.eq rfl rfl (by simp [Value.oneCell']) (by simp) ?_ | refine storeX 2 rfl Siz.eq rfl rfl (by simp [Value.oneCell']) (by simp) ?_ | refine storeX 3 rfl Siz.eq rfl rfl (by simp [Value.oneCell']) (by simp) ?_ | refine storeX 4 rfl Siz.eq rfl rfl (by simp [Value.oneCell']) (by simp) ?_ | refine storeX 5 rfl Siz.eq rfl rfl (by simp [Value.oneCell']) (by simp) ?_ | refine storeX 6 rfl Siz.eq rfl rfl (by simp [Value.oneCell']) (by simp) ?_) <;> simp (disch := omega) only [push_cast, Nat.reduceEqDiff]) | (first | rw [V_cond] | rw [V_block]) <;> (try simp (disch := omega) only [push_cast, Nat.reduceEqDiff]))
    have hp : partsP f = f.sub := by simp [partsP, hm, h19, h20]
    rw [hp]
    exact fun w' hw' => ⟨_, M, rfl, hw'.drop (List.sublist_append_left M _) (fun p hp => .inr (hLM _ p hp)), hM, a2, c2, xs2, rfl, z1, z2, z3, z4, z5⟩
  have hp : partsP f = endsF :: f.sub := by simp [partsP, hm, h20]
  rw [hp]
  have h1l := runs_one (mayT_shaped hm) h20
  rcases z5 with z5 | ⟨b, cs, ty, rfl, hmb, htk⟩
  · rw [z5] at h1l; simp at h1l
  have hone : ∀ u ∈ xs2, u.oneCell' = true := FldsM.one z3
  simp (disch := omega) only [push_cast, Nat.reduceEqDiff]
  refine bs_22_1 (newI fun b20 hb20 hn20 => ?_)
  simp (disch := omega) only [push_cast, Nat.reduceEqDiff]
  have hxl := z4
  refine appendI un_22 infoFldC rfl (n := 1) (m := f.sub.length) (xs := endsF.cells none 0) (news := xs2) (M := M ++ [(b1, Obj.cells #[i64 f.k, i64 f.wd, i64 f.id, i64 f.ix, .slice a f.sub.length c] 36 (0, 0))]) ⟨rfl, .inr ⟨b20, 1, endsF.cells none 0, rfl, rfl, hb20, by omega, by simp [maxLen], rfl, rfl⟩⟩ z4 (CanRead.of_own (.tail _ (List.mem_append_left _ hmb)) hxl htk) hone (by simp only [maxLen]; omega) (by omega) (fun v5 L5 hro5 _ => ?_)
  simp (disch := omega) only [push_cast, Nat.reduceEqDiff]
  repeat' (first | ((first | refine guardX_t rfl (fun h => ?_) (fun h => ?_) | refine guardX_f rfl (fun h => ?_) (fun h => ?_) | refine condX_d (fun h => ?_) (fun h => ?_) | (refine guardX_bt rfl (fun h => ?_) (fun h => ?_) <;> (try subst h)) | (refine guardX_bf rfl (fun h => ?_) (fun h => ?_) <;> (try subst h)) | (refine condX_b (fun h => ?_) (fun h => ?_) <;> (try subst h)) | refine ldOne Shp.eq (by (first | exact mem0 | exact mem1 | exact mem2 | exact mem3 | exact mem4 | exact mem5)) rfl ?_ | refine loadX_agg Shp.eq (by (first | exact mem0 | exact mem1 | exact mem2 | exact mem3 | exact mem4 | exact mem5)) rfl rfl ?_ | refine newI (fun b hb hn => ?_) | refine storeX 0 rfl Siz.eq rfl rfl (by simp [Value.oneCell']) (by simp) ?_ | refine storeX 1 rfl Siz.eq rfl rfl (by simp [Value.oneCell']) (by simp) ?_ | refine storeX 2 rfl Siz.eq rfl rfl (by simp [Value.oneCell']) (by simp) ?_ | refine storeX 3 rfl Siz.eq rfl rfl (by simp [Value.oneCell']) (by simp) ?_ | refine storeX 4 rfl Siz.eq rfl rfl (by simp [Value.oneCell']) (by simp) ?_ | refine storeX 5 rfl Siz.eq rfl rfl (by simp [Value.oneCell']) (by simp) ?_ | refine storeX 6 rfl Siz.eq rfl rfl (by simp [Value.oneCell']) (by simp) ?_) <;> simp (disch := omega) only [push_cast, Nat.reduceEqDiff]) | (first | rw [V_cond] | rw [V_block]) <;> (try simp (disch := omega) only [push_cast, Nat.reduceEqDiff]))
  obtain ⟨va, vc, rfl⟩ := hro5.is_slice
  have hle := RowO.le hro5
  have hnew5 := hro5.new (hLM _)
  have hln : 1 + f.sub.length = (endsF :: f.sub).length := by rw [List.length_cons]; omega
  rw [hln] at hro5 hle ⊢
  have hxl5 := hro5.1
  refine fun w' hw' => ⟨_, L5, rfl, hw', hnew5, va, vc, _, rfl, hle.2.1, by omega, ?_, hxl5, ?_⟩
  · exact ⟨none, 0, xs2, rfl, by simp [endsF, Fld.sub], by simp [endsF, Fld.nm], by omega, .nil _, z3.mono fun p hp => hro5.mem (List.mem_append_left _ hp)⟩
  · obtain ⟨h0, ⟨q1, q2, q3⟩ | ⟨b, cap, cs, q1, q2, q3, q4, q5, q6, q7⟩⟩ := hro5
    · simp at q2
    · injection q1 with r1 r2 r3
      exact .inr ⟨b, cs, _, r1, by rw [q2]; exact .head _, q7⟩
end Go.Proofs.YtgbafmjgfbgeoaaDoor
