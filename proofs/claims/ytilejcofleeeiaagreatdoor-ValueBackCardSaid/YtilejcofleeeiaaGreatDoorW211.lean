/- YtilejcofleeeiaaGreatDoor: plain: the texts of values; how long they are at most; what a field that may be is, names and all. -/
import Derived.Test.YtilejcofleeeiaaGreatDoorW210
import Derived.Test.YtilejcofleeeiaaGreatDoorW88
namespace Go.Proofs.YtilejcofleeeiaaGreatDoor
open Go Go.K
set_option maxRecDepth 100000
set_option linter.unusedVariables false
set_option linter.unusedSimpArgs false
/-- How a byte of a text is written; empty: as it is. -/
def escP (c : UInt8) : List UInt8 :=
  if c.toNat = 9 then [92, 116] else if c.toNat = 10 then [92, 110] else if c.toNat = 13 then [92, 114] else if c.toNat = 34 then [92, 34] else if c.toNat = 92 then [92, 92]
  else if c.toNat < 32 ∨ c.toNat = 127 then [92, 120, hexC (c.toNat / 16), hexC (c.toNat % 16)] else []
def charT (c : UInt8) : List UInt8 := if escP c = [] then [c] else escP c
def byteT (c : UInt8) : List UInt8 := [hexC (c.toNat / 16), hexC (c.toNat % 16)]
def textT (s : List UInt8) : List UInt8 := 34 :: (s.flatMap charT ++ [34])
def bytesT (s : List UInt8) : List UInt8 := 120 :: 34 :: (s.flatMap byteT ++ [34])
def nullT : List UInt8 := [110, 117, 108, 108]
/-- The texts of a list's items, with what stands ahead of each. -/
def itemT (f : Fld) (T : Fld → Vl → List UInt8) (i : Nat) (x : Vl) : List UInt8 :=
  (if i = 0 then [] else [44]) ++ ((match f.sub[i]? with | some g => if f.k = 17 then g.nm ++ [58] else [] | none => []) ++ (match f.sub[childN f i]? with | some g => T g x | none => []))
def itemsT (f : Fld) (T : Fld → Vl → List UInt8) : Nat → List Vl → List UInt8
  | _, [] => []
  | i, x :: l => itemT f T i x ++ itemsT f T (i + 1) l
/-- A value's text. -/
def showV : Nat → Fld → Vl → List UInt8
  | 0, _, _ => []
  | d + 1, f, v =>
    if v.nu = true then nullT
    else if f.k = 19 ∨ f.k = 20 then (match f.sub[0]? with | some g => showV d g v | none => [])
    else if f.k = 12 then textT v.tx
    else if f.k = 13 ∨ f.k = 14 then bytesT v.tx
    else if f.k = 18 then (match f.sub[v.num.toNat]?, v.ls[0]? with | some g, some x => g.nm ++ 40 :: (showV d g x ++ [41]) | _, _ => [])
    else if f.k = 15 ∨ f.k = 16 ∨ f.k = 17 then (if f.k = 17 then 123 else 91) :: (itemsT f (showV d) 0 v.ls ++ [if f.k = 17 then 125 else 93])
    else numT f.k v.num
theorem itemsT_app (f : Fld) (T : Fld → Vl → List UInt8) : ∀ (l : List Vl) (i : Nat) (m : List Vl), itemsT f T i (l ++ m) = itemsT f T i l ++ itemsT f T (i + l.length) m
  | [], i, m => rfl
  | x :: l, i, m => by
    rw [List.cons_append, itemsT, itemsT, itemsT_app f T l (i + 1) m, List.append_assoc, List.length_cons, show i + 1 + l.length = i + (l.length + 1) by omega]
theorem itemsT_take {f : Fld} {T : Fld → Vl → List UInt8} {l : List Vl} {i : Nat} {x : Vl} (h : l[i]? = some x) : itemsT f T 0 (l.take (i + 1)) = itemsT f T 0 (l.take i) ++ itemT f T i x := by
  have hi := (List.getElem?_eq_some_iff.1 h).1
  rw [List.take_add_one, h, Option.toList_some, itemsT_app]
  rw [show 0 + (l.take i).length = i by rw [List.length_take]; omega]
  show _ ++ (itemT f T i x ++ []) = _
  rw [List.append_nil]
/-- A field that may be, within a dictionary or not, as far as its values' texts ask. -/
def okT : Nat → Bool → Fld → Prop
  | 0, _, _ => False
  | d + 1, ind, f => (shapedF f ∧ nullsB f = true ∧ (f.k = 19 → firstNl f = false) ∧ (ind = true → ¬ (f.k = 19 ∨ f.k = 20)) ∧ isName f.nm ∧ (∀ (i j : Nat) (g h : Fld), f.sub[i]? = some g → f.sub[j]? = some h → g.nm = h.nm → i = j)) ∧ ∀ g ∈ f.sub, okT d (ind || f.k == 19) g
theorem nd_sub : ∀ (d : Nat) (path : List Nat) (ind : Bool) (l : List Fld) (i : Nat) (f : Fld), l[i]? = some f → ⟨path ++ [i], l.take i, f, ind⟩ ∈ nd (d + 1) path ind l ∧ ∀ x ∈ nd d (path ++ [i]) (ind || f.k == 19) f.sub, x ∈ nd (d + 1) path ind l := by
  intro d path ind l i f hi
  have hm : (f, i) ∈ l.zipIdx := List.mem_iff_getElem?.2 ⟨i, by simp [hi]⟩
  rw [nd]
  exact ⟨List.mem_flatMap.2 ⟨(f, i), hm, .head _⟩, fun x hx => List.mem_flatMap.2 ⟨(f, i), hm, .tail _ hx⟩⟩
/-- What is asked of each field within. -/
def okN (x : FNode) : Prop := shapedF x.f ∧ nullsB x.f = true ∧ (x.f.k = 19 → firstNl x.f = false) ∧ (x.ind = true → ¬ (x.f.k = 19 ∨ x.f.k = 20)) ∧ isName x.f.nm ∧ x.ah.any (fun g => decide (g.nm = x.f.nm)) = false
theorem names_apart {d : Nat} {path : List Nat} {ind : Bool} {l : List Fld} (h : ∀ x ∈ nd (d + 1) path ind l, okN x) : ∀ (i j : Nat) (g k : Fld), l[i]? = some g → l[j]? = some k → g.nm = k.nm → i = j := by
  have key : ∀ (i j : Nat) (g k : Fld), i < j → l[i]? = some g → l[j]? = some k → g.nm ≠ k.nm := by
    intro i j g k hij hi hj he
    have h1 := (h _ (nd_sub d path ind l j k hj).1).2.2.2.2.2
    simp only [List.any_eq_false, decide_eq_true_eq] at h1
    refine h1 g (List.mem_iff_getElem?.2 ⟨i, ?_⟩) he
    rw [List.getElem?_take_of_lt hij]
    exact hi
  intro i j g k hi hj he
  rcases Nat.lt_trichotomy i j with h1 | h1 | h1
  · exact absurd he (key i j g k h1 hi hj)
  · exact h1
  · exact absurd he.symm (key j i k g h1 hj hi)
theorem okT_of : ∀ (d : Nat) (path : List Nat) (ind : Bool) (l : List Fld), (∀ x ∈ nd (d + 1) path ind l, okN x ∧ x.path.length ≤ path.length + d) → ∀ f ∈ l, okT d ind f
  | 0, path, ind, l, h, f, hf => by
    obtain ⟨i, hi⟩ := List.mem_iff_getElem?.1 hf
    have := (h _ (nd_sub 0 path ind l i f hi).1).2
    simp only [List.length_append, List.length_cons, List.length_nil] at this
    omega
  | d + 1, path, ind, l, h, f, hf => by
    obtain ⟨i, hi⟩ := List.mem_iff_getElem?.1 hf
    obtain ⟨q1, q2⟩ := nd_sub (d + 1) path ind l i f hi
    obtain ⟨⟨a1, a2, a3, a4, a5, _⟩, _⟩ := h _ q1
    refine ⟨⟨a1, a2, a3, a4, a5, names_apart (d := d) (path := path ++ [i]) (ind := ind || f.k == 19) fun x hx => (h x (q2 x hx)).1⟩, okT_of d (path ++ [i]) (ind || f.k == 19) f.sub fun x hx => ?_⟩
    have := h x (q2 x hx)
    refine ⟨this.1, ?_⟩
    have := this.2
    simp only [List.length_append, List.length_cons, List.length_nil] at this ⊢
    omega
theorem may_okT {f : Fld} (h : mayD f = true) : okT 64 false f := by
  have h : mayP [f] [] = true := by unfold mayP; simpa [mayD] using h
  refine okT_of 64 [] false [f] (fun x hx => ?_) f (.head _)
  obtain ⟨i, hi⟩ := List.mem_iff_getElem?.1 hx
  have h1 := (checkP_zero h).2.2.2 i
  unfold wrongAt at h1
  rw [hi] at h1
  simp only at h1
  have h2 := (wrongN_many h1).1
  refine ⟨?_, by simpa using h2⟩
  unfold wrongN at h1
  by_cases q1 : 64 < x.path.length
  · rw [if_pos q1] at h1; cases h1
  rw [if_neg q1] at h1
  by_cases q2 : (256 : Int) ≤ i
  · rw [if_pos q2] at h1; cases h1
  rw [if_neg q2] at h1
  by_cases q3 : ¬ isName x.f.nm
  · rw [if_pos q3] at h1; cases h1
  rw [if_neg q3] at h1
  by_cases q4 : x.ah.any (fun g => decide (g.nm = x.f.nm)) = true
  · rw [if_pos q4] at h1; cases h1
  rw [if_neg q4] at h1
  by_cases q5 : ¬ shapedF x.f
  · rw [if_pos q5] at h1; cases h1
  rw [if_neg q5] at h1
  by_cases q6 : nullsB x.f = false
  · rw [if_pos q6] at h1; cases h1
  rw [if_neg q6] at h1
  by_cases q7 : x.ind = true ∧ (x.f.k = 19 ∨ x.f.k = 20)
  · rw [if_pos q7] at h1; cases h1
  rw [if_neg q7] at h1
  refine ⟨Decidable.not_not.1 q5, by simpa using q6, fun h19 => ?_, fun hi hk => q7 ⟨hi, hk⟩, Decidable.not_not.1 q3, by simpa using q4⟩
  cases hf : firstNl x.f with
  | false => rfl
  | true => rw [if_pos ⟨h19, .inl hf⟩] at h1; cases h1
theorem okT.okD : ∀ {d : Nat} {ind : Bool} {f : Fld}, okT d ind f → okD d f
  | 0, _, _, h => h
  | d + 1, _, _, h => ⟨h.1.1, fun g hg => okT.okD (h.2 g hg)⟩
theorem okT.name : ∀ {d : Nat} {ind : Bool} {f : Fld}, okT d ind f → isName f.nm
  | 0, _, _, h => h.elim
  | d + 1, _, _, h => h.1.2.2.2.2.1
/-! How long the texts are at most. -/
theorem nDig_le : ∀ (k u : Nat), u < 10 ^ (k + 1) → (Lib.decDigits u).length ≤ k + 1
  | 0, u, h => by rw [Lib.decDigits, dif_pos (by simpa using h)]; simp
  | k + 1, u, h => by
    rw [Lib.decDigits]
    split
    · simp
    · have := nDig_le k (u / 10) (by rw [Nat.pow_succ] at h; omega)
      simp only [List.length_append, List.length_cons, List.length_nil]
      omega
theorem dec_len {u : Nat} (h : u < 18446744073709551616) : (Lib.decDigits u).length ≤ 20 := nDig_le 19 u (by have : (10 : Nat) ^ 20 = 100000000000000000000 := rfl; omega)
theorem itoa_len {n : Int} (h1 : -9223372036854775808 ≤ n) (h2 : n < 9223372036854775808) : (Lib.itoa n).length ≤ 21 := by
  unfold Lib.itoa
  split
  · have := dec_len (u := n.natAbs) (by omega)
    rw [List.length_cons]; omega
  · have := dec_len (u := n.toNat) (by omega)
    omega
theorem floatU_len {x : Nat} (hx : x < 9223372036854775808) : (floatU x).length ≤ 42 := by
  unfold floatU
  split
  · split
    · simp
    · rw [List.length_append, hexs_len]; simp
  · split
    · simp
    · rename_i hp h0
      obtain ⟨⟨q1, q2, q3, q4⟩, _⟩ := bits_forth (x := x) (by omega) (by omega)
      have h1 := dec_len (u := oddM x) (by omega)
      have hl : 1 ≤ blen (oddM x) := by have := (blen_spec (m := oddM x) (by omega)).2.2; omega
      have h2 := itoa_len (n := oddE x) (by omega) (by omega)
      unfold finT
      rw [List.length_append, List.length_cons]
      omega
theorem numT_len (k : Int) {n : Int} (h1 : -9223372036854775808 ≤ n) (h2 : n < 9223372036854775808) : (numT k n).length ≤ 43 := by
  unfold numT
  split
  · unfold boolT; split <;> simp
  · split
    · have := dec_len (u := unsP n) (by unfold unsP; omega)
      omega
    · split
      · unfold floatT
        have := floatU_len (x := magU n) (by unfold magU; omega)
        split
        · rw [List.length_cons]; omega
        · omega
      · have := itoa_len h1 h2
        omega
theorem esc_len (c : UInt8) : (escP c).length ≤ 4 := by unfold escP; (repeat' split) <;> simp
theorem char_len (c : UInt8) : 1 ≤ (charT c).length ∧ (charT c).length ≤ 4 := by
  unfold charT
  split
  · simp
  · rename_i h
    exact ⟨List.length_pos_iff.2 h, esc_len c⟩
theorem flat_le (F : UInt8 → List UInt8) (h : ∀ c, (F c).length ≤ 4) : ∀ s : List UInt8, (s.flatMap F).length ≤ 4 * s.length
  | [] => by simp
  | c :: s => by
    rw [List.flatMap_cons, List.length_append, List.length_cons]
    have := flat_le F h s
    have := h c
    omega
theorem textT_len (s : List UInt8) : (textT s).length ≤ 4 * s.length + 2 := by
  unfold textT
  have := flat_le charT (fun c => (char_len c).2) s
  simp only [List.length_cons, List.length_append, List.length_nil]
  omega
theorem bytesT_len (s : List UInt8) : (bytesT s).length ≤ 4 * s.length + 3 := by
  unfold bytesT
  have := flat_le byteT (fun c => by simp [byteT]) s
  simp only [List.length_cons, List.length_append, List.length_nil]
  omega
theorem itemT_len {f : Fld} {T : Fld → Vl → List UInt8} {i : Nat} {x : Vl} {B : Nat} (hn : ∀ g ∈ f.sub, g.nm.length ≤ 48) (hT : ∀ g ∈ f.sub, (T g x).length ≤ B) : (itemT f T i x).length ≤ 50 + B := by
  unfold itemT
  simp only [List.length_append]
  have h1 : (if i = 0 then ([] : List UInt8) else [44]).length ≤ 1 := by split <;> simp
  have h2 : (match f.sub[i]? with | some g => if f.k = 17 then g.nm ++ [58] else [] | none => ([] : List UInt8)).length ≤ 49 := by
    split
    · rename_i g hg
      have := hn g (List.mem_of_getElem? hg)
      split <;> simp; omega
    · simp
  have h3 : (match f.sub[childN f i]? with | some g => T g x | none => ([] : List UInt8)).length ≤ B := by
    split
    · rename_i g hg
      exact hT g (List.mem_of_getElem? hg)
    · simp
  omega
/-- The numbers within are machine numbers. -/
def rngD : Nat → Vl → Prop
  | 0, _ => True
  | d + 1, v => (-9223372036854775808 ≤ v.num ∧ v.num < 9223372036854775808) ∧ ∀ x ∈ v.ls, rngD d x
theorem rng_down : ∀ (d : Nat) (v : Vl), rngD (d + 1) v → rngD d v
  | 0, v, h => trivial
  | d + 1, v, h => ⟨h.1, fun x hx => rng_down d x (h.2 x hx)⟩
theorem wV_pos (v : Vl) : 16 ≤ wV v := by rw [wV_eq]; omega
theorem wL_mem {x : Vl} : ∀ {l : List Vl}, x ∈ l → wV x ≤ wL l
  | [], h => by cases h
  | y :: l, h => by
    rw [wL]
    rcases List.mem_cons.1 h with rfl | h
    · omega
    · have := wL_mem h; omega
theorem items_len {f : Fld} {T : Fld → Vl → List UInt8} (hn : ∀ g ∈ f.sub, g.nm.length ≤ 48) : ∀ (l : List Vl) (i : Nat), (∀ (j : Nat) (x : Vl), l[j]? = some x → (match f.sub[childN f (i + j)]? with | some g => T g x | none => ([] : List UInt8)).length + 50 ≤ 10 * wV x) → (itemsT f T i l).length ≤ 10 * wL l
  | [], i, h => by simp [itemsT]
  | x :: l, i, h => by
    have h1 := h 0 x rfl
    simp only [Nat.add_zero] at h1
    have h2 := items_len hn l (i + 1) (fun j y hj => by rw [show i + 1 + j = i + (j + 1) by omega]; exact h (j + 1) y (by simpa using hj))
    rw [itemsT, wL, List.length_append]
    have h3 : (itemT f T i x).length ≤ 10 * wV x := by
      unfold itemT
      simp only [List.length_append]
      have q1 : (if i = 0 then ([] : List UInt8) else [44]).length ≤ 1 := by split <;> simp
      have q2 : (match f.sub[i]? with | some g => if f.k = 17 then g.nm ++ [58] else [] | none => ([] : List UInt8)).length ≤ 49 := by
        split
        · rename_i g hg
          have := hn g (List.mem_of_getElem? hg)
          split
          · rw [List.length_append, List.length_singleton]; omega
          · simp
        · simp
      omega
    omega
theorem show_len : ∀ (d : Nat) (f : Fld) (v : Vl) (ind : Bool), okT d ind f → fitD d f v = true → rngD d v → (showV d f v).length + 50 ≤ 10 * wV v
  | 0, f, v, ind, h, _, _ => h.elim
  | d + 1, f, v, ind, h, hf, hr => by
    have hw := wV_pos v
    have hwe := wV_eq v
    have hnm : ∀ g ∈ f.sub, g.nm.length ≤ 48 := fun g hg => ((h.2 g hg).name).2.2
    have hrv := hr.1
    rw [showV]
    by_cases hnu : v.nu = true
    · rw [if_pos hnu]
      simp only [nullT, List.length_cons, List.length_nil]
      omega
    have hnf : v.nu = false := by simpa using hnu
    rw [if_neg hnu]
    by_cases hA : f.k = 19 ∨ f.k = 20
    · rw [if_pos hA]
      have hlen : 1 ≤ f.sub.length := by
        have h1 := h.1.1.2.2.2.1
        rcases hA with hk | hk <;> rw [hk] at h1 <;> simp [leastK] at h1 <;> omega
      obtain ⟨g, hg⟩ : ∃ g, f.sub[0]? = some g := ⟨_, List.getElem?_eq_getElem (by omega)⟩
      rw [hg]
      exact show_len d g v _ (h.2 g (List.mem_of_getElem? hg)) (fit_wrap hnf hA hg hf) (rng_down d v hr)
    rw [if_neg hA]
    by_cases h12 : f.k = 12
    · rw [if_pos h12]
      have := textT_len v.tx
      omega
    rw [if_neg h12]
    by_cases h13 : f.k = 13 ∨ f.k = 14
    · rw [if_pos h13]
      have := bytesT_len v.tx
      omega
    rw [if_neg h13]
    by_cases h18 : f.k = 18
    · rw [if_pos h18]
      obtain ⟨g, z, hg, hz, hl, _, _, hgz⟩ := fit_union hnf h18 hf
      rw [hg, hz]
      have h1 := show_len d g z _ (h.2 g (List.mem_of_getElem? hg)) hgz (hr.2 z (List.mem_of_getElem? hz))
      have h2 := hnm g (List.mem_of_getElem? hg)
      have h3 := wL_mem (List.mem_of_getElem? hz)
      simp only [List.length_append, List.length_cons, List.length_nil]
      omega
    rw [if_neg h18]
    by_cases h15 : f.k = 15 ∨ f.k = 16 ∨ f.k = 17
    · rw [if_pos h15]
      have h1 := items_len (f := f) (T := showV d) hnm v.ls 0 (fun j x hj => by
        obtain ⟨g, hg, hgx⟩ := (fit_list hnf h15 hf).2.2.2.2 j x hj
        rw [Nat.zero_add, hg]
        exact show_len d g x _ (h.2 g (List.mem_of_getElem? hg)) hgx (hr.2 x (List.mem_of_getElem? hj)))
      simp only [List.length_append, List.length_cons, List.length_nil]
      omega
    rw [if_neg h15]
    have := numT_len f.k hrv.1 hrv.2
    omega
end Go.Proofs.YtilejcofleeeiaaGreatDoor
