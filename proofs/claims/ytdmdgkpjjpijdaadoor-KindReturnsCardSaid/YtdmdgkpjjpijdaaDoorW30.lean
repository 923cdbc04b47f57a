/- YtdmdgkpjjpijdaaDoor: plain law: two lists of fields that may be are alike just where their fields in order, each without what lies within it, are the same. -/
import Derived.Test.YtdmdgkpjjpijdaaDoorW10
namespace Go.Proofs.YtdmdgkpjjpijdaaDoor
open Go Go.K
set_option linter.unusedVariables false
set_option linter.unusedSimpArgs false
structure Key where
  nl : Bool
  k : Int
  wd : Int
  id : Int
  ix : Int
  n : Nat
  nm : List UInt8
def keyF (f : Fld) : Key := ⟨f.nl, f.k, f.wd, f.id, f.ix, f.sub.length, f.nm⟩
def keysL : Nat → List Fld → List Key
  | 0, _ => []
  | d + 1, l => l.flatMap fun f => keyF f :: keysL d f.sub
theorem zip_flat {α β : Type} (g : α → List β) : ∀ (l : List α) (n : Nat), (l.zipIdx n).flatMap (fun p => g p.1) = l.flatMap g
  | [], _ => rfl
  | a :: l, n => by rw [List.zipIdx_cons, List.flatMap_cons, List.flatMap_cons, zip_flat g l]
theorem keys_nd : ∀ (d : Nat) (path : List Nat) (ind : Bool) (l : List Fld), (nd d path ind l).map (fun x => keyF x.f) = keysL d l
  | 0, _, _, _ => rfl
  | d + 1, path, ind, l => by
    rw [nd, keysL, List.map_flatMap, ← zip_flat (fun f => keyF f :: keysL d f.sub) l 0]
    congr 1
    funext p
    rw [List.map_cons, keys_nd d]
def Dp : Nat → List Fld → Prop
  | 0, l => l = []
  | d + 1, l => ∀ f ∈ l, Dp d f.sub
theorem dp_of : ∀ (d : Nat) (path : List Nat) (ind : Bool) (l : List Fld), (∀ x ∈ nd (d + 1) path ind l, x.path.length ≤ path.length + d) → Dp d l
  | 0, path, ind, l, h => by
    cases l with
    | nil => rfl
    | cons f l =>
      have := h ⟨path ++ [0], [], f, ind⟩ (by simp [nd])
      simp only [List.length_append, List.length_cons, List.length_nil] at this
      omega
  | d + 1, path, ind, l, h => fun f hf => by
    obtain ⟨i, hi⟩ := List.mem_iff_getElem?.1 hf
    refine dp_of d (path ++ [i]) (ind || f.k == 19) f.sub fun x hx => ?_
    have := h x (by
      rw [nd]
      refine List.mem_flatMap.2 ⟨(f, i), ?_, .tail _ hx⟩
      exact List.mem_iff_getElem?.2 ⟨i, by simp [hi]⟩)
    simp only [List.length_append, List.length_cons, List.length_nil] at this ⊢
    omega
theorem keys_dp : ∀ (d : Nat) (l : List Fld), Dp d l → keysL (d + 1) l = keysL d l
  | 0, l, h => by cases h; rfl
  | d + 1, l, h => by
    rw [keysL, keysL]
    have : ∀ m : List Fld, (∀ f ∈ m, f ∈ l) → m.flatMap (fun f => keyF f :: keysL (d + 1) f.sub) = m.flatMap fun f => keyF f :: keysL d f.sub := by
      intro m hm
      induction m with
      | nil => rfl
      | cons f m ih =>
        rw [List.flatMap_cons, List.flatMap_cons, ih fun g hg => hm g (.tail _ hg), keys_dp d f.sub (h f (hm f (.head _)))]
    exact this l fun f h => h
theorem keys_inj : ∀ (d : Nat) (l m : List Fld), Dp d l → Dp d m → l.length = m.length → ∀ r s, keysL d l ++ r = keysL d m ++ s → sameL l m = true ∧ r = s
  | 0, l, m, h1, h2, _, r, s, h => by
    cases h1; cases h2
    exact ⟨by simp [sameL], by simpa [keysL] using h⟩
  | d + 1, [], [], _, _, _, r, s, h => ⟨by simp [sameL], by simpa [keysL] using h⟩
  | d + 1, f :: l, g :: m, h1, h2, hl, r, s, h => by
    rw [keysL, keysL, List.flatMap_cons, List.flatMap_cons, List.append_assoc, List.append_assoc, List.cons_append, List.cons_append] at h
    obtain ⟨hk, h⟩ := List.cons.inj h
    simp only [keyF, Key.mk.injEq] at hk
    obtain ⟨k1, k2, k3, k4, k5, k6, k7⟩ := hk
    obtain ⟨e1, h⟩ := keys_inj d f.sub g.sub (h1 f (.head _)) (h2 g (.head _)) k6 _ _ h
    obtain ⟨e2, h⟩ := keys_inj (d + 1) l m (fun x hx => h1 x (.tail _ hx)) (fun x hx => h2 x (.tail _ hx)) (by simpa using hl) r s h
    refine ⟨?_, h⟩
    rw [sameL, sameF_eq, e1, e2]
    simp [k1, k2, k3, k4, k5, k7]
  | d + 1, [], _ :: _, _, _, hl, _, _, _ => by simp at hl
  | d + 1, _ :: _, [], _, _, hl, _, _, _ => by simp at hl
theorem sameL_len : ∀ {l m : List Fld}, sameL l m = true → l.length = m.length := fun {l m} h => by rw [sameL_eq] at h; exact eqP_len h
theorem keys_same : ∀ (d : Nat) (l m : List Fld), sameL l m = true → keysL d l = keysL d m
  | 0, _, _, _ => rfl
  | d + 1, [], [], _ => rfl
  | d + 1, f :: l, g :: m, h => by
    rw [sameL, sameF_eq] at h
    simp only [Bool.and_eq_true, decide_eq_true_eq, beq_iff_eq] at h
    obtain ⟨⟨⟨h1, h2⟩, ⟨⟨⟨h3, h4⟩, h5⟩, h6⟩, h7⟩, h8⟩ := h
    have h9 := keys_same (d + 1) l m h8
    rw [keysL, keysL] at h9
    rw [keysL, keysL, List.flatMap_cons, List.flatMap_cons, h9, keys_same d f.sub g.sub h7]
    simp only [keyF, h1, h2, h3, h4, h5, h6, sameL_len h7]
  | d + 1, [], _ :: _, h => by simp [sameL] at h
  | d + 1, _ :: _, [], h => by simp [sameL] at h
theorem may_dp {l : List Fld} {nt : List NoteT} (h : mayP l nt = true) : Dp 64 l := by
  refine dp_of 64 [] false l fun x hx => ?_
  obtain ⟨i, hi⟩ := List.mem_iff_getElem?.1 hx
  have h1 := (checkP_zero h).2.2.2 i
  unfold wrongAt at h1
  rw [hi] at h1
  have := (wrongN_many h1).1
  simpa using this
theorem count_may {l : List Fld} {nt : List NoteT} (h : mayP l nt = true) : (nd 65 [] false l).length = (nd 64 [] false l).length := by
  have h1 := congrArg List.length (keys_nd 65 [] false l)
  have h2 := congrArg List.length (keys_nd 64 [] false l)
  rw [List.length_map] at h1 h2
  rw [h1, h2, keys_dp 64 l (may_dp h)]
/-- The reference's question, of two nodes, of two lists of them. -/
def sameNd (f g : Fld) : Bool := (f.nl == g.nl) && decide (f.k = g.k) && decide (f.wd = g.wd) && decide (f.id = g.id) && decide (f.ix = g.ix) && decide (f.sub.length = g.sub.length)
def testN (names : Bool) (x y : FNode) : Bool := sameNd x.f y.f && (!(names || decide (1 < x.path.length)) || decide (x.f.nm = y.f.nm))
def alikeN (names : Bool) (a b : Nat) (ns ms : List FNode) : Bool := decide (a = b) && decide (ns.length = ms.length) && (ns.zip ms).all fun p => testN names p.1 p.2
theorem zip_all {α : Type} {p : α → α → Bool} {l m : List α} (hl : l.length = m.length) : (l.zip m).all (fun q => p q.1 q.2) = true ↔ ∀ (j : Nat) (x y : α), l[j]? = some x → m[j]? = some y → p x y = true := by
  rw [List.all_eq_true]
  constructor
  · intro h j x y hx hy
    exact h (x, y) (List.mem_iff_getElem?.2 ⟨j, by rw [List.getElem?_zip_eq_some]; exact ⟨hx, hy⟩⟩)
  · rintro h ⟨x, y⟩ hq
    obtain ⟨j, hj⟩ := List.mem_iff_getElem?.1 hq
    rw [List.getElem?_zip_eq_some] at hj
    exact h j x y hj.1 hj.2
theorem testN_key {x y : FNode} : testN true x y = true ↔ keyF x.f = keyF y.f := by
  unfold testN sameNd
  simp only [Bool.and_eq_true, decide_eq_true_eq, beq_iff_eq, Bool.true_or, Bool.not_true, Bool.false_or, keyF, Key.mk.injEq]
  constructor
  · rintro ⟨⟨⟨⟨⟨⟨h1, h2⟩, h3⟩, h4⟩, h5⟩, h6⟩, h7⟩; exact ⟨h1, h2, h3, h4, h5, h6, h7⟩
  · rintro ⟨h1, h2, h3, h4, h5, h6, h7⟩; exact ⟨⟨⟨⟨⟨⟨h1, h2⟩, h3⟩, h4⟩, h5⟩, h6⟩, h7⟩
theorem alike_law {l m : List Fld} {nt nt' : List NoteT} (h : mayP l nt = true) (h' : mayP m nt' = true) : alikeN true l.length m.length (nd 65 [] false l) (nd 65 [] false m) = sameL l m := by
  have hk := keys_nd 65 [] false l
  have hk' := keys_nd 65 [] false m
  rw [Bool.eq_iff_iff]
  constructor
  · intro h1
    simp only [alikeN, Bool.and_eq_true, decide_eq_true_eq] at h1
    obtain ⟨⟨h1, h2⟩, h3⟩ := h1
    rw [zip_all h2] at h3
    have he : keysL 65 l = keysL 65 m := by
      rw [← hk, ← hk']
      apply List.ext_getElem?
      intro j
      rw [List.getElem?_map, List.getElem?_map]
      rcases Nat.lt_or_ge j (nd 65 [] false l).length with hj | hj
      · have hj' : j < (nd 65 [] false m).length := by omega
        have := testN_key.1 (h3 j _ _ (List.getElem?_eq_getElem hj) (List.getElem?_eq_getElem hj'))
        rw [List.getElem?_eq_getElem hj, List.getElem?_eq_getElem hj', Option.map_some, Option.map_some, this]
      · rw [List.getElem?_eq_none hj, List.getElem?_eq_none (by omega)]
    rw [keys_dp 64 l (may_dp h), keys_dp 64 m (may_dp h')] at he
    exact (keys_inj 64 l m (may_dp h) (may_dp h') h1 [] [] (by rw [he])).1
  · intro h1
    have he := keys_same 65 l m h1
    rw [← hk, ← hk'] at he
    have hlen := congrArg List.length he
    rw [List.length_map, List.length_map] at hlen
    simp only [alikeN, Bool.and_eq_true, decide_eq_true_eq]
    refine ⟨⟨sameL_len h1, hlen⟩, (zip_all hlen).2 fun j x y hx hy => testN_key.2 ?_⟩
    have := congrArg (·[j]?) he
    simp only [List.getElem?_map, hx, hy, Option.map_some, Option.some.injEq] at this
    exact this
end Go.Proofs.YtdmdgkpjjpijdaaDoor
