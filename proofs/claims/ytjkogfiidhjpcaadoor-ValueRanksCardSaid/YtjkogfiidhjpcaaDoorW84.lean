/- YtjkogfiidhjpcaaDoor: plain law: which values fit, and what they weigh; the types within a field that may be are of their shapes. -/
import Derived.Test.YtjkogfiidhjpcaaDoorW83
import Derived.Test.YtjkogfiidhjpcaaDoorW9
namespace Go.Proofs.YtjkogfiidhjpcaaDoor
open Go Go.K
set_option linter.unusedVariables false
set_option linter.unusedSimpArgs false
/-- A field all of whose types are of their shapes, and no deeper than so. -/
def okD : Nat → Fld → Prop
  | 0, _ => False
  | d + 1, f => shapedF f ∧ ∀ g ∈ f.sub, okD d g
theorem okD_of : ∀ (d : Nat) (path : List Nat) (ind : Bool) (l : List Fld), (∀ x ∈ nd (d + 1) path ind l, shapedF x.f ∧ x.path.length ≤ path.length + d) → ∀ f ∈ l, okD d f
  | 0, path, ind, l, h, f, hf => by
    obtain ⟨i, hi⟩ := List.mem_iff_getElem?.1 hf
    have := (h ⟨path ++ [i], l.take i, f, ind⟩ (by
      rw [nd]
      exact List.mem_flatMap.2 ⟨(f, i), List.mem_iff_getElem?.2 ⟨i, by simp [hi]⟩, .head _⟩)).2
    simp only [List.length_append, List.length_cons, List.length_nil] at this
    omega
  | d + 1, path, ind, l, h, f, hf => by
    obtain ⟨i, hi⟩ := List.mem_iff_getElem?.1 hf
    have hm : (f, i) ∈ l.zipIdx := List.mem_iff_getElem?.2 ⟨i, by simp [hi]⟩
    refine ⟨(h ⟨path ++ [i], l.take i, f, ind⟩ (by
      rw [nd]
      exact List.mem_flatMap.2 ⟨(f, i), hm, .head _⟩)).1, okD_of d (path ++ [i]) (ind || f.k == 19) f.sub fun x hx => ?_⟩
    have := h x (by
      rw [nd]
      exact List.mem_flatMap.2 ⟨(f, i), hm, .tail _ hx⟩)
    refine ⟨this.1, ?_⟩
    have := this.2
    simp only [List.length_append, List.length_cons, List.length_nil] at this ⊢
    omega
theorem may_okD {f : Fld} {nt : List NoteT} (h : mayP [f] nt = true) : okD 64 f := by
  refine okD_of 64 [] false [f] (fun x hx => ?_) f (.head _)
  obtain ⟨i, hi⟩ := List.mem_iff_getElem?.1 hx
  have h1 := (checkP_zero h).2.2.2 i
  unfold wrongAt at h1
  rw [hi] at h1
  simp only at h1
  have h2 := (wrongN_many h1).1
  refine ⟨?_, by simpa using h2⟩
  unfold wrongN at h1
  by_cases q1 : 64 < x.path.length
  · rw [if_pos q1] at h1; cases h1
  rw [if_neg q1] at h1
  by_cases q2 : (256 : Int) ≤ i
  · rw [if_pos q2] at h1; cases h1
  rw [if_neg q2] at h1
  by_cases q3 : ¬ isName x.f.nm
  · rw [if_pos q3] at h1; cases h1
  rw [if_neg q3] at h1
  by_cases q4 : x.ah.any (fun g => decide (g.nm = x.f.nm)) = true
  · rw [if_pos q4] at h1; cases h1
  rw [if_neg q4] at h1
  by_cases q5 : ¬ shapedF x.f
  · rw [if_pos q5] at h1; cases h1
  exact Decidable.not_not.1 q5
mutual
/-- What a value weighs. -/
def wV : Vl → Nat
  | .mk _ _ tx ls => 16 + tx.length + wL ls
def wL : List Vl → Nat
  | [] => 0
  | v :: l => wV v + wL l
end
theorem wV_eq (v : Vl) : wV v = 16 + v.tx.length + wL v.ls := by cases v; rw [wV]; rfl
theorem wL_append : ∀ (l m : List Vl), wL (l ++ m) = wL l + wL m
  | [], m => by simp [wL]
  | v :: l, m => by rw [List.cons_append, wL, wL, wL_append l m]; omega
theorem wL_take {l : List Vl} {i : Nat} {v : Vl} (h : l[i]? = some v) : wL (l.take (i + 1)) = wL (l.take i) + wV v := by
  rw [List.take_add_one, h, Option.toList_some, wL_append]
  simp [wL]
theorem wL_take_le (l : List Vl) (i : Nat) : wL (l.take i) ≤ wL l := by
  have := wL_append (l.take i) (l.drop i)
  rw [List.take_append_drop] at this
  omega
/-- The child that the i-th item of a list has. -/
def childN (f : Fld) (i : Nat) : Nat := if f.k = 17 then i else 0
/-- Does a value fit a field, its weight apart? -/
def fitD : Nat → Fld → Vl → Bool
  | 0, _, _ => false
  | d + 1, f, v => decide (v.ls.length ≤ 4096) && (if v.nu = true then decide (v.num = 0) && (decide (v.tx = []) && (decide (v.ls.length = 0) && letsP f))
    else if f.k = 19 ∨ f.k = 20 then (match f.sub[0]? with | some g => fitD d g v | none => false)
    else if f.k = 18 then decide (v.tx = []) && (decide (0 ≤ v.num) && (decide (v.num < f.sub.length) && (decide (v.ls.length = 1) && (match f.sub[v.num.toNat]?, v.ls[0]? with | some g, some x => fitD d g x | _, _ => false))))
    else if f.k = 15 ∨ f.k = 16 ∨ f.k = 17 then decide (v.num = 0) && (decide (v.tx = []) && (decide (f.k = 16 → (v.ls.length : Int) = f.wd) && (decide (f.k = 17 → v.ls.length = f.sub.length) && (List.range v.ls.length).all fun i => match f.sub[childN f i]?, v.ls[i]? with | some g, some x => fitD d g x | _, _ => false)))
    else if f.k = 12 ∨ f.k = 13 ∨ f.k = 14 then decide (v.num = 0) && (decide (v.ls.length = 0) && ((!decide (f.k = 12) || Lib.validD v.tx) && (!decide (f.k = 14) || decide ((v.tx.length : Int) = f.wd))))
    else decide (v.tx = []) && (decide (v.ls.length = 0) && (if f.k = 2 then decide (v.num = 0 ∨ v.num = 1) else if f.k = 11 then true else wholeP f.k && rangedP f.k v.num)))
end Go.Proofs.YtjkogfiidhjpcaaDoor
