/- YtdmdgkpjjpijdaaDoor: plain: the places of fields' names: each way that is told of a schema leads to one. -/
import Derived.Test.YtdmdgkpjjpijdaaDoorW155
import Derived.Test.YtdmdgkpjjpijdaaDoorW7
import Derived.Test.YtdmdgkpjjpijdaaDoorW8
namespace Go.Proofs.YtdmdgkpjjpijdaaDoor
open Go Go.K
set_option maxRecDepth 100000
set_option linter.unusedVariables false
set_option linter.unusedSimpArgs false
mutual
/-- A place tree stands for a field: as many children, each for one. -/
def Like : Fld → Sp → Prop
  | .mk _ _ _ _ _ _ sub, .mk _ kids => LikeL sub kids
def LikeL : List Fld → List Sp → Prop
  | [], [] => True
  | f :: l, s :: k => Like f s ∧ LikeL l k
  | [], _ :: _ => False
  | _ :: _, [] => False
end
theorem Like_iff (f : Fld) (s : Sp) : Like f s ↔ LikeL f.sub s.kids := by cases f; cases s; rw [Like]; rfl
theorem LikeL.get : ∀ {l : List Fld} {k : List Sp} {i : Nat} {f : Fld}, LikeL l k → l[i]? = some f → ∃ s, k[i]? = some s ∧ Like f s
  | [], k, i, f, h, hi => by simp at hi
  | g :: l, [], i, f, h, hi => by rw [LikeL] at h; exact h.elim
  | g :: l, s :: k, 0, f, h, hi => by
    rw [LikeL] at h
    simp only [List.getElem?_cons_zero, Option.some.injEq] at hi
    subst hi
    exact ⟨s, rfl, h.1⟩
  | g :: l, s :: k, i + 1, f, h, hi => by
    rw [LikeL] at h
    simp only [List.getElem?_cons_succ] at hi ⊢
    exact LikeL.get h.2 hi
theorem likeL_map : ∀ {xs : List Fz}, (∀ x ∈ xs, Like x.1 x.2) → LikeL (xs.map (·.1)) (xs.map (·.2))
  | [], _ => by rw [List.map_nil, List.map_nil, LikeL]; trivial
  | x :: xs, h => by
    rw [List.map_cons, List.map_cons, LikeL]
    exact ⟨h x (.head _), likeL_map fun y hy => h y (.tail _ hy)⟩
def AllLike (F : Nat → PR Fz) : Prop := ∀ q r x, F q = .ok x r → Like x.1 x.2
theorem one_like {F : Nat → PR Fz} (hF : AllLike F) {q r : Nat} {xs : List Fz} (h : one F q = .ok xs r) : ∀ x ∈ xs, Like x.1 x.2 := by
  obtain ⟨y, p, h1, h2⟩ := PR.and_eq_ok h
  cases h2
  intro x hx
  rw [List.mem_singleton.1 hx]
  exact hF _ _ _ h1
theorem pMany_like {s : List UInt8} {F : Nat → PR Fz} (hF : AllLike F) : ∀ (m q r : Nat) (xs : List Fz), pMany s F m q = .ok xs r → ∀ x ∈ xs, Like x.1 x.2
  | 0, q, r, xs, h => by cases h
  | m + 1, q, r, xs, h => by
    rw [pMany] at h
    obtain ⟨y, p, h1, h2⟩ := PR.and_eq_ok h
    split at h2
    · cases h2
      intro x hx
      rw [List.mem_singleton.1 hx]
      exact hF _ _ _ h1
    · obtain ⟨l, r3, h5, h6⟩ := PR.and_eq_ok h2
      cases h6
      intro x hx
      rcases List.mem_cons.1 hx with rfl | hx
      · exact hF _ _ _ h1
      · exact pMany_like hF m _ _ _ h5 x hx
theorem pInner_like {s : List UInt8} {F : Nat → PR Fz} (hF : AllLike F) {k q r : Nat} {t : Ty} (h : pInner s F k q = .ok t r) : ∀ x ∈ t.l, Like x.1 x.2 := by
  have hno : ∀ x ∈ ([] : List Fz), Like x.1 x.2 := fun x hx => by cases hx
  unfold pInner at h
  split at h
  · obtain ⟨n, p, h1, h2⟩ := PR.and_eq_ok h
    cases h2; exact hno
  split at h
  · obtain ⟨n, p, h1, h2⟩ := PR.and_eq_ok h
    obtain ⟨_, p2, h3, h4⟩ := PR.and_eq_ok h2
    obtain ⟨l, p3, h5, h6⟩ := PR.and_eq_ok h4
    cases h6; exact one_like hF h5
  split at h
  · obtain ⟨n, p, h1, h2⟩ := PR.and_eq_ok h
    obtain ⟨_, p2, h3, h4⟩ := PR.and_eq_ok h2
    obtain ⟨i, p3, h5, h6⟩ := PR.and_eq_ok h4
    obtain ⟨_, p4, h7, h8⟩ := PR.and_eq_ok h6
    obtain ⟨l, p5, h9, h10⟩ := PR.and_eq_ok h8
    cases h10; exact one_like hF h9
  split at h
  · obtain ⟨l, p, h1, h2⟩ := PR.and_eq_ok h
    cases h2; exact pMany_like hF _ _ _ _ h1
  split at h
  · split at h
    · cases h; exact hno
    · obtain ⟨l, p, h1, h2⟩ := PR.and_eq_ok h
      cases h2; exact pMany_like hF _ _ _ _ h1
  · obtain ⟨l, p, h1, h2⟩ := PR.and_eq_ok h
    cases h2; exact one_like hF h1
theorem pField_like (s : List UInt8) : ∀ d, AllLike (pField s d)
  | 0, q, r, x, h => by cases h
  | d + 1, q, r, x, h => by
    rw [pField] at h
    obtain ⟨nm, p, h1, h2⟩ := PR.and_eq_ok h
    obtain ⟨t, p2, h3, h4⟩ := PR.and_eq_ok h2
    have ht : ∀ x ∈ t.l, Like x.1 x.2 := by
      obtain ⟨k, p3, g1, g2⟩ := PR.and_eq_ok h3
      split at g2
      · cases g2; intro x hx; cases hx
      · obtain ⟨_, p4, g3, g4⟩ := PR.and_eq_ok g2
        obtain ⟨t2, p5, g5, g6⟩ := PR.and_eq_ok g4
        obtain ⟨_, p6, g7, g8⟩ := PR.and_eq_ok g6
        cases g8
        exact pInner_like (pField_like s d) g5
    have hk : ∀ nl, Like (mkF nm nl t q).1 (mkF nm nl t q).2 := fun nl => (Like_iff _ _).2 (likeL_map ht)
    split at h4
    · cases h4; exact hk true
    · cases h4; exact hk false
/-- The place to which a way leads; where the way is none: the one ahead. -/
def foundP : List Sp → List Nat → Nat → Nat
  | _, [], a => a
  | l, i :: p, _ => match l[i]? with
    | some s => foundP s.kids p s.at_
    | none => 0
def okW : List Sp → List Nat → Prop
  | _, [] => True
  | l, i :: p => ∃ s, l[i]? = some s ∧ okW s.kids p
theorem nd_way : ∀ (d : Nat) (path : List Nat) (ind : Bool) (l : List Fld) (k : List Sp), LikeL l k → ∀ x ∈ nd d path ind l, ∃ p, x.path = path ++ p ∧ okW k p
  | 0, path, ind, l, k, hl, x, hx => by simp [nd] at hx
  | d + 1, path, ind, l, k, hl, x, hx => by
    rw [nd] at hx
    obtain ⟨⟨f, i⟩, hp, hx⟩ := List.mem_flatMap.1 hx
    have hf : l[i]? = some f := by simpa using List.mk_mem_zipIdx_iff_getElem?.1 hp
    obtain ⟨s, hs, hls⟩ := hl.get hf
    rcases List.mem_cons.1 hx with rfl | hx
    · exact ⟨[i], rfl, s, hs, trivial⟩
    · obtain ⟨p, e, hp2⟩ := nd_way d (path ++ [i]) _ f.sub s.kids ((Like_iff _ _).1 hls) x hx
      exact ⟨i :: p, by rw [e]; simp, s, hs, hp2⟩
theorem check_way {l : List Fld} {nt : List NoteT} {k : List Sp} (h : LikeL l k) : okW k (checkP l nt).2.1 := by
  unfold checkP
  split
  · trivial
  split
  · trivial
  split
  · trivial
  · show okW k (faultN (nd 65 [] false l)).2
    unfold faultN
    cases firstWrong (nd 65 [] false l) with
    | none => trivial
    | some j =>
      cases hj : (nd 65 [] false l)[j]? with
      | none => simp [pathAt, hj, okW]
      | some x =>
        obtain ⟨p, e, hp⟩ := nd_way 65 [] false l k h x (List.mem_of_getElem? hj)
        simp only [List.nil_append] at e
        simp [pathAt, hj, e, hp]
end Go.Proofs.YtdmdgkpjjpijdaaDoor
/- YtdmdgkpjjpijdaaDoor: plain: a text as a schema, as a field: what it says, or what is wrong and where. -/
namespace Go.Proofs.YtdmdgkpjjpijdaaDoor
open Go Go.K
set_option maxRecDepth 100000
set_option linter.unusedVariables false
set_option linter.unusedSimpArgs false
/-- Parse: the fields, the notes, the error, its place. -/
structure PS where
  l : List Fld
  nt : List NoteT
  e : Int
  at_ : Nat
def parseP (t : List UInt8) : PS :=
  if 65536 < t.length then ⟨[], [], 4, 65536⟩ else match pSchema t with
  | .no q => ⟨[], [], 8, q⟩
  | .ok x _ => if (checkP (x.1.map (·.1)) x.2).1 = 0 then ⟨x.1.map (·.1), x.2, 0, 0⟩ else ⟨[], [], (checkP (x.1.map (·.1)) x.2).1, foundP (x.1.map (·.2)) (checkP (x.1.map (·.1)) x.2).2.1 0⟩
/-- ParseField: the field, the error, its place. -/
structure PF where
  f : Fld
  e : Int
  at_ : Nat
def noF : Fld := .mk [] false 0 0 0 0 []
def parseF (t : List UInt8) : PF :=
  if 65536 < t.length then ⟨noF, 4, 65536⟩ else match pOne t with
  | .no q => ⟨noF, 8, q⟩
  | .ok x _ => if (checkP [x.1] []).1 = 0 then ⟨x.1, 0, 0⟩ else ⟨noF, (checkP [x.1] []).1, foundP [x.2] (checkP [x.1] []).2.1 0⟩
theorem parse_may {t : List UInt8} (h : (parseP t).e = 0) : mayP (parseP t).l (parseP t).nt = true ∧ (parseP t).at_ = 0 := by
  unfold parseP at h ⊢
  split
  · rename_i h1; rw [if_pos h1] at h; cases h
  rename_i h1
  rw [if_neg h1] at h
  split
  · rename_i q h2; rw [h2] at h; cases h
  rename_i x q h2
  rw [h2] at h
  simp only at h ⊢
  split
  · rename_i h3
    refine ⟨?_, rfl⟩
    unfold mayP
    simpa using h3
  · rename_i h3
    rw [if_neg h3] at h
    exact absurd h h3
theorem parse_no {t : List UInt8} (h : (parseP t).e ≠ 0) : (parseP t).l = [] ∧ (parseP t).nt = [] := by
  unfold parseP at h ⊢
  split
  · exact ⟨rfl, rfl⟩
  rename_i h1
  rw [if_neg h1] at h
  split
  · exact ⟨rfl, rfl⟩
  rename_i x q h2
  rw [h2] at h
  simp only at h ⊢
  split
  · rename_i h3
    rw [if_pos h3] at h
    exact absurd rfl h
  · exact ⟨rfl, rfl⟩
theorem parse_of {t : List UInt8} {xs : List Fz} {nt : List NoteT} {q : Nat} (hl : t.length ≤ 65536) (h : pSchema t = .ok (xs, nt) q) (hm : mayP (xs.map (·.1)) nt = true) : parseP t = ⟨xs.map (·.1), nt, 0, 0⟩ := by
  unfold parseP
  rw [if_neg (by omega), h]
  simp only
  rw [if_pos]
  unfold mayP at hm
  simpa using hm
theorem parseF_of {t : List UInt8} {x : Fz} {q : Nat} (hl : t.length ≤ 65536) (h : pOne t = .ok x q) (hm : mayP [x.1] [] = true) : parseF t = ⟨x.1, 0, 0⟩ := by
  unfold parseF
  rw [if_neg (by omega), h]
  simp only
  rw [if_pos]
  unfold mayP at hm
  simpa using hm
end Go.Proofs.YtdmdgkpjjpijdaaDoor
/- YtdmdgkpjjpijdaaDoor: plain: the place of a field's name, by the names' places in order. -/
namespace Go.Proofs.YtdmdgkpjjpijdaaDoor
open Go Go.K
set_option maxRecDepth 100000
set_option linter.unusedVariables false
set_option linter.unusedSimpArgs false
mutual
/-- The places of names, in the fields' order. -/
def preP : Sp → List Nat
  | .mk a kids => a :: preL kids
def preL : List Sp → List Nat
  | [] => []
  | s :: l => preP s ++ preL l
end
theorem preP_eq (s : Sp) : preP s = s.at_ :: preL s.kids := by cases s; rw [preP]; rfl
theorem preL_append : ∀ a b : List Sp, preL (a ++ b) = preL a ++ preL b
  | [], b => by rw [preL]; rfl
  | s :: a, b => by rw [List.cons_append, preL, preL, preL_append a b, List.append_assoc]
mutual
/-- How many fields a field is, and those within it. -/
def cF : Fld → Nat
  | .mk _ _ _ _ _ _ sub => 1 + cL sub
def cL : List Fld → Nat
  | [] => 0
  | f :: l => cF f + cL l
end
theorem cF_eq (f : Fld) : cF f = 1 + cL f.sub := by cases f; rw [cF]; rfl
mutual
theorem pre_lenF : ∀ (f : Fld) (s : Sp), Like f s → (preP s).length = cF f
  | .mk _ _ _ _ _ _ sub, .mk a kids, h => by
    rw [Like] at h
    rw [preP, cF, List.length_cons, pre_lenL sub kids h]
    omega
theorem pre_lenL : ∀ (l : List Fld) (k : List Sp), LikeL l k → (preL k).length = cL l
  | [], [], _ => by rw [preL, cL]; rfl
  | f :: l, s :: k, h => by
    rw [LikeL] at h
    rw [preL, cL, List.length_append, pre_lenF f s h.1, pre_lenL l k h.2]
  | [], _ :: _, h => by rw [LikeL] at h; exact h.elim
  | _ :: _, [], h => by rw [LikeL] at h; exact h.elim
end
theorem LikeL.take : ∀ {l : List Fld} {k : List Sp} (n : Nat), LikeL l k → LikeL (l.take n) (k.take n)
  | l, k, 0, h => by rw [List.take_zero, List.take_zero, LikeL]; trivial
  | [], [], n + 1, h => by rw [List.take_nil, List.take_nil, LikeL]; trivial
  | f :: l, s :: k, n + 1, h => by
    rw [LikeL] at h
    rw [List.take_succ_cons, List.take_succ_cons, LikeL]
    exact ⟨h.1, LikeL.take n h.2⟩
  | [], _ :: _, n + 1, h => by rw [LikeL] at h; exact h.elim
  | _ :: _, [], n + 1, h => by rw [LikeL] at h; exact h.elim
/-- How many fields stand ahead of the one to which a way leads. -/
def placeK : List Fld → List Nat → Nat
  | _, [] => 0
  | l, [n] => cL (l.take n)
  | l, n :: m :: p => cL (l.take n) + (1 + placeK ((l[n]?.map Fld.sub).getD []) (m :: p))
theorem place_found : ∀ (path : List Nat) (l : List Fld) (k : List Sp) (a : Nat), LikeL l k → okW k path → path ≠ [] → (preL k)[placeK l path]? = some (foundP k path a)
  | [], l, k, a, h, hw, h0 => absurd rfl h0
  | [n], l, k, a, h, hw, h0 => by
    obtain ⟨s, hs, _⟩ := hw
    obtain ⟨q1, rfl⟩ := List.getElem?_eq_some_iff.1 hs
    have e : preL k = preL (k.take n) ++ (preP k[n] ++ preL (k.drop (n + 1))) := by
      rw [← preL, ← preL_append, ← List.drop_eq_getElem_cons q1, List.take_append_drop]
    rw [placeK, foundP, hs]
    simp only [foundP]
    rw [e, List.getElem?_append_right (by rw [pre_lenL _ _ (h.take n)]; exact Nat.le_refl _), pre_lenL _ _ (h.take n), Nat.sub_self, preP_eq]
    rfl
  | n :: m :: p, l, k, a, h, hw, h0 => by
    obtain ⟨s, hs, hw2⟩ := hw
    obtain ⟨f, hf, hfs⟩ : ∃ f, l[n]? = some f ∧ Like f s := by
      have hl : ∀ {l : List Fld} {k : List Sp} {n : Nat} {s : Sp}, LikeL l k → k[n]? = some s → ∃ f, l[n]? = some f ∧ Like f s := by
        intro l
        induction l with
        | nil =>
          intro k n s h hs
          cases k with
          | nil => simp at hs
          | cons x k => rw [LikeL] at h; exact h.elim
        | cons g l ih =>
          intro k n s h hs
          cases k with
          | nil => simp at hs
          | cons x k =>
            rw [LikeL] at h
            cases n with
            | zero =>
              simp only [List.getElem?_cons_zero, Option.some.injEq] at hs
              subst hs
              exact ⟨g, rfl, h.1⟩
            | succ n =>
              simp only [List.getElem?_cons_succ] at hs ⊢
              exact ih h.2 hs
      exact hl h hs
    have ih := place_found (m :: p) f.sub s.kids s.at_ ((Like_iff _ _).1 hfs) hw2 (by simp)
    obtain ⟨q1, rfl⟩ := List.getElem?_eq_some_iff.1 hs
    have e : preL k = preL (k.take n) ++ (preP k[n] ++ preL (k.drop (n + 1))) := by
      rw [← preL, ← preL_append, ← List.drop_eq_getElem_cons q1, List.take_append_drop]
    rw [placeK, foundP, hs, hf]
    simp only [Option.map_some, Option.getD_some]
    rw [e, List.getElem?_append_right (by rw [pre_lenL _ _ (h.take n)]; omega), pre_lenL _ _ (h.take n), Nat.add_sub_cancel_left, preP_eq, List.cons_append, Nat.add_comm 1, List.getElem?_cons_succ]
    have hlt := (List.getElem?_eq_some_iff.1 ih).1
    rw [List.getElem?_append_left hlt]
    exact ih
end Go.Proofs.YtdmdgkpjjpijdaaDoor
