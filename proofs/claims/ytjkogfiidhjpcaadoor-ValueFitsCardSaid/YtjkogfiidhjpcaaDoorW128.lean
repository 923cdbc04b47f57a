/- YtjkogfiidhjpcaaDoor: plain law: zero values: what they weigh; that they fit. -/
import Derived.Test.YtjkogfiidhjpcaaDoorW88
import Derived.Test.YtjkogfiidhjpcaaDoorW127
namespace Go.Proofs.YtjkogfiidhjpcaaDoor
open Go Go.K
set_option linter.unusedVariables false
set_option linter.unusedSimpArgs false
/-- A field that may be, within dictionaries or not, as far as its zero value asks. -/
def okZ : Nat → Bool → Fld → Prop
  | 0, _, _ => False
  | d + 1, ind, f => (shapedF f ∧ nullsB f = true ∧ (f.k = 19 → firstNl f = false) ∧ (ind = true → ¬ (f.k = 19 ∨ f.k = 20))) ∧ ∀ g ∈ f.sub, okZ d (ind || f.k == 19) g
theorem okZ_of : ∀ (d : Nat) (path : List Nat) (ind : Bool) (l : List Fld), (∀ x ∈ nd (d + 1) path ind l, (shapedF x.f ∧ nullsB x.f = true ∧ (x.f.k = 19 → firstNl x.f = false) ∧ (x.ind = true → ¬ (x.f.k = 19 ∨ x.f.k = 20))) ∧ x.path.length ≤ path.length + d) → ∀ f ∈ l, okZ d ind f
  | 0, path, ind, l, h, f, hf => by
    obtain ⟨i, hi⟩ := List.mem_iff_getElem?.1 hf
    have := (h ⟨path ++ [i], l.take i, f, ind⟩ (by
      rw [nd]
      exact List.mem_flatMap.2 ⟨(f, i), List.mem_iff_getElem?.2 ⟨i, by simp [hi]⟩, .head _⟩)).2
    simp only [List.length_append, List.length_cons, List.length_nil] at this
    omega
  | d + 1, path, ind, l, h, f, hf => by
    obtain ⟨i, hi⟩ := List.mem_iff_getElem?.1 hf
    have hm : (f, i) ∈ l.zipIdx := List.mem_iff_getElem?.2 ⟨i, by simp [hi]⟩
    refine ⟨(h ⟨path ++ [i], l.take i, f, ind⟩ (by
      rw [nd]
      exact List.mem_flatMap.2 ⟨(f, i), hm, .head _⟩)).1, okZ_of d (path ++ [i]) (ind || f.k == 19) f.sub fun x hx => ?_⟩
    have := h x (by
      rw [nd]
      exact List.mem_flatMap.2 ⟨(f, i), hm, .tail _ hx⟩)
    refine ⟨this.1, ?_⟩
    have := this.2
    simp only [List.length_append, List.length_cons, List.length_nil] at this ⊢
    omega
theorem may_okZ {f : Fld} (h : mayD f = true) : okZ 64 false f := by
  have h : mayP [f] [] = true := by unfold mayP; simpa [mayD] using h
  refine okZ_of 64 [] false [f] (fun x hx => ?_) f (.head _)
  obtain ⟨i, hi⟩ := List.mem_iff_getElem?.1 hx
  have h1 := (checkP_zero h).2.2.2 i
  unfold wrongAt at h1
  rw [hi] at h1
  simp only at h1
  have h2 := (wrongN_many h1).1
  refine ⟨?_, by simpa using h2⟩
  unfold wrongN at h1
  by_cases q1 : 64 < x.path.length
  · rw [if_pos q1] at h1; cases h1
  rw [if_neg q1] at h1
  by_cases q2 : (256 : Int) ≤ i
  · rw [if_pos q2] at h1; cases h1
  rw [if_neg q2] at h1
  by_cases q3 : ¬ isName x.f.nm
  · rw [if_pos q3] at h1; cases h1
  rw [if_neg q3] at h1
  by_cases q4 : x.ah.any (fun g => decide (g.nm = x.f.nm)) = true
  · rw [if_pos q4] at h1; cases h1
  rw [if_neg q4] at h1
  by_cases q5 : ¬ shapedF x.f
  · rw [if_pos q5] at h1; cases h1
  rw [if_neg q5] at h1
  by_cases q6 : nullsB x.f = false
  · rw [if_pos q6] at h1; cases h1
  rw [if_neg q6] at h1
  by_cases q7 : x.ind = true ∧ (x.f.k = 19 ∨ x.f.k = 20)
  · rw [if_pos q7] at h1; cases h1
  rw [if_neg q7] at h1
  refine ⟨Decidable.not_not.1 q5, by simpa using q6, fun h19 => ?_, fun hi hk => q7 ⟨hi, hk⟩⟩
  cases hf : firstNl x.f with
  | false => rfl
  | true => rw [if_pos ⟨h19, .inl hf⟩] at h1; cases h1
theorem okZ.okD : ∀ {d : Nat} {ind : Bool} {f : Fld}, okZ d ind f → okD d f
  | 0, _, _, h => h
  | d + 1, _, _, h => ⟨h.1.1, fun g hg => okZ.okD (h.2 g hg)⟩
/-- What a field's zero value weighs; much: too much. -/
def zwD : Nat → Fld → Int
  | 0, _ => 0
  | d + 1, f => if letsP f = true then 16
    else if f.k = 19 ∨ f.k = 20 then (match f.sub[0]? with | some g => zwD d g | none => 0)
    else min ((16 : Int) + (if f.k = 14 then f.wd else if f.k = 18 then (match f.sub[0]? with | some g => zwD d g | none => 0)
      else if f.k = 16 then f.wd * (match f.sub[0]? with | some g => zwD d g | none => 0) else if f.k = 17 then (f.sub.map (zwD d)).sum else 0)) 4194305
/-- A field's zero value. -/
def zeroD : Nat → Fld → Vl
  | 0, _ => .mk false 0 [] []
  | d + 1, f => if letsP f = true then .mk true 0 [] []
    else if f.k = 19 ∨ f.k = 20 then (match f.sub[0]? with | some g => zeroD d g | none => .mk false 0 [] [])
    else .mk false 0 (if f.k = 14 then List.replicate f.wd.toNat 0 else []) (if f.k = 18 then (match f.sub[0]? with | some g => [zeroD d g] | none => [])
      else if f.k = 16 then (match f.sub[0]? with | some g => List.replicate f.wd.toNat (zeroD d g) | none => []) else if f.k = 17 then f.sub.map (zeroD d) else [])
theorem wid14 {f : Fld} (h : wideP f.k f.wd) (hk : f.k = 14) : 1 ≤ f.wd ∧ f.wd ≤ 16 := by
  rw [hk] at h
  simpa [wideP, widthK] using h
theorem wid16 {f : Fld} (h : wideP f.k f.wd) (hk : f.k = 16) : 1 ≤ f.wd ∧ f.wd ≤ 64 := by
  rw [hk] at h
  simpa [wideP, widthK] using h
theorem zero_null {d : Nat} {f : Fld} (h : letsP f = true) : zeroD (d + 1) f = .mk true 0 [] [] := by rw [zeroD, if_pos h]
theorem zw_null {d : Nat} {f : Fld} (h : letsP f = true) : zwD (d + 1) f = 16 := by rw [zwD, if_pos h]
theorem zero_in {d : Nat} {f g : Fld} (h : ¬ letsP f = true) (hk : f.k = 19 ∨ f.k = 20) (hg : f.sub[0]? = some g) : zeroD (d + 1) f = zeroD d g := by rw [zeroD, if_neg h, if_pos hk, hg]
theorem zw_in {d : Nat} {f g : Fld} (h : ¬ letsP f = true) (hk : f.k = 19 ∨ f.k = 20) (hg : f.sub[0]? = some g) : zwD (d + 1) f = zwD d g := by rw [zwD, if_neg h, if_pos hk, hg]
theorem lets_nl {f : Fld} (h : f.k ≠ 20) (hn : nullsB f = true) : letsP f = f.nl := by
  rw [lets_out (fun q => h q.1)]
  by_cases h18 : f.k = 18
  · have h1 : (!f.nl) = true := by
      have := hn
      unfold nullsB at this
      rw [if_neg (by omega), if_pos h18] at this
      exact this
    simp only [Bool.not_eq_true'] at h1
    rw [h1]; rfl
  · simp [h18]
/-- The one child of a field with one. -/
theorem one_child {d : Nat} {ind : Bool} {f : Fld} (h : okZ (d + 1) ind f) (hk : f.k = 15 ∨ f.k = 16 ∨ f.k = 19 ∨ f.k = 20) : ∃ g, f.sub = [g] ∧ okZ d (ind || f.k == 19) g := by
  have hsh := h.1.1
  have h1 : leastK f.k ≤ (f.sub.length : Int) := hsh.2.2.2.1
  have h2 : (f.sub.length : Int) ≤ mostK f.k := hsh.2.2.2.2
  have q1 : leastK f.k = 1 := by unfold leastK; rw [if_pos (by omega)]
  have q2 : mostK f.k = 1 := by unfold mostK; rw [if_pos (by omega)]
  obtain ⟨g, hg⟩ : ∃ g, f.sub = [g] := List.length_eq_one_iff.1 (by omega)
  exact ⟨g, hg, h.2 g (by rw [hg]; exact .head _)⟩
theorem first_child {d : Nat} {ind : Bool} {f : Fld} (h : okZ (d + 1) ind f) (hk : f.k = 18) : ∃ g, f.sub[0]? = some g ∧ okZ d (ind || f.k == 19) g := by
  have hsh := h.1.1
  have h1 : leastK f.k ≤ (f.sub.length : Int) := hsh.2.2.2.1
  have q1 : leastK f.k = 1 := by unfold leastK; rw [if_pos (by omega)]
  obtain ⟨g, hg⟩ : ∃ g, f.sub[0]? = some g := ⟨_, List.getElem?_eq_getElem (by omega)⟩
  exact ⟨g, hg, h.2 g (List.mem_of_getElem? hg)⟩
theorem lets_child {d : Nat} {ind : Bool} {f g : Fld} (h : okZ (d + 1) ind f) (hk : f.k = 19 ∨ f.k = 20) (hs : f.sub = [g]) (hn : ¬ letsP f = true) : ¬ letsP g = true := by
  rcases hk with hk | hk
  · have hg := h.2 g (by rw [hs]; exact .head _)
    cases d with
    | zero => exact absurd hg id
    | succ d =>
      have h1 := hg.1.2.2.2 (by rw [hk]; simp)
      have h2 := h.1.2.2.1 hk
      unfold firstNl at h2
      rw [hs] at h2
      simp at h2
      rw [lets_nl (fun q => h1 (.inr q)) hg.1.2.1, h2]
      simp
  · rwa [← lets_in hk hs]
theorem zw_bounds : ∀ (d : Nat) {ind : Bool} {f : Fld}, okZ d ind f → 16 ≤ zwD d f ∧ zwD d f ≤ 4194305
  | 0, _, _, h => absurd h id
  | d + 1, ind, f, h => by
    by_cases hl : letsP f = true
    · rw [zw_null hl]; omega
    by_cases hk : f.k = 19 ∨ f.k = 20
    · obtain ⟨g, hg, hg2⟩ := one_child h (by omega)
      rw [zw_in hl hk (by rw [hg]; rfl)]
      exact zw_bounds d hg2
    rw [zwD, if_neg hl, if_neg hk]
    have hnn : 0 ≤ (if f.k = 14 then f.wd else if f.k = 18 then (match f.sub[0]? with | some g => zwD d g | none => 0)
      else if f.k = 16 then f.wd * (match f.sub[0]? with | some g => zwD d g | none => 0) else if f.k = 17 then (f.sub.map (zwD d)).sum else 0) := by
      have hw := h.1.1.2.1
      split
      · have h1 := wid14 hw (by assumption); omega
      split
      · obtain ⟨g, hg, hg2⟩ := first_child h (by assumption)
        rw [hg]; have := zw_bounds d hg2; simp only; omega
      split
      · rename_i h14 h18 h16
        obtain ⟨g, hg, hg2⟩ := one_child h (by omega)
        rw [hg]; have := zw_bounds d hg2
        have h1 := wid16 hw h16
        exact Int.mul_nonneg (by omega) (by simp; omega)
      split
      · have hall : ∀ g ∈ f.sub, 16 ≤ zwD d g := fun g hg => (zw_bounds d (h.2 g hg)).1
        revert hall
        generalize f.sub = l
        intro hall
        induction l with
        | nil => simp
        | cons g l ih =>
          rw [List.map_cons, List.sum_cons]
          have := hall g (.head _)
          have := ih (fun x hx => hall x (.tail _ hx))
          omega
      · omega
    omega
theorem wL_map {d : Nat} : ∀ (l : List Fld), (∀ g ∈ l, 16 ≤ zwD d g ∧ (zwD d g ≤ 4194304 → (wV (zeroD d g) : Int) = zwD d g)) → (l.map (zwD d)).sum ≤ 4194304 → (wL (l.map (zeroD d)) : Int) = (l.map (zwD d)).sum
  | [], _, _ => by simp [wL]
  | g :: l, h, hs => by
    rw [List.map_cons, List.sum_cons] at hs
    have h1 := h g (.head _)
    have hnn : 0 ≤ (l.map (zwD d)).sum := by
      have hall : ∀ g ∈ l, 16 ≤ zwD d g := fun g hg => (h g (.tail _ hg)).1
      clear h hs h1
      induction l with
      | nil => simp
      | cons g l ih =>
        rw [List.map_cons, List.sum_cons]
        have := hall g (.head _)
        have := ih (fun x hx => hall x (.tail _ hx))
        omega
    have h2 := wL_map l (fun x hx => h x (.tail _ hx)) (by omega)
    rw [List.map_cons, List.map_cons, List.sum_cons, wL]
    have := h1.2 (by omega)
    omega
theorem wL_replicate (v : Vl) : ∀ n : Nat, wL (List.replicate n v) = n * wV v
  | 0 => by simp [wL]
  | n + 1 => by rw [List.replicate_succ, wL, wL_replicate v n, Nat.succ_mul]; omega
/-- A zero value weighs what was told. -/
theorem zw_wV : ∀ (d : Nat) {ind : Bool} {f : Fld}, okZ d ind f → zwD d f ≤ 4194304 → (wV (zeroD d f) : Int) = zwD d f
  | 0, _, _, h, _ => absurd h id
  | d + 1, ind, f, h, hw => by
    by_cases hl : letsP f = true
    · rw [zw_null hl, zero_null hl]; rfl
    by_cases hk : f.k = 19 ∨ f.k = 20
    · obtain ⟨g, hg, hg2⟩ := one_child h (by omega)
      rw [zw_in hl hk (by rw [hg]; rfl)] at hw ⊢
      rw [zero_in hl hk (by rw [hg]; rfl)]
      exact zw_wV d hg2 hw
    have hwd := h.1.1.2.1
    rw [zwD, if_neg hl, if_neg hk] at hw ⊢
    rw [zeroD, if_neg hl, if_neg hk, wV]
    by_cases h14 : f.k = 14
    · have h1 := wid14 hwd h14
      simp only [if_pos h14, if_neg (show ¬ f.k = 18 by omega), if_neg (show ¬ f.k = 16 by omega), if_neg (show ¬ f.k = 17 by omega), wL, List.length_replicate] at hw ⊢
      omega
    simp only [if_neg h14] at hw ⊢
    by_cases h18 : f.k = 18
    · obtain ⟨g, hg, hg2⟩ := first_child h h18
      simp only [if_pos h18, hg] at hw ⊢
      have := zw_wV d hg2 (by omega)
      simp only [wL, List.length_nil]
      omega
    simp only [if_neg h18] at hw ⊢
    by_cases h16 : f.k = 16
    · obtain ⟨g, hg, hg2⟩ := one_child h (by omega)
      simp only [if_pos h16, hg, List.getElem?_cons_zero] at hw ⊢
      have h1 := wid16 hwd h16
      have hb := zw_bounds d hg2
      have hle : zwD d g ≤ f.wd * zwD d g := by
        have := Int.mul_le_mul_of_nonneg_right (show (1 : Int) ≤ f.wd by omega) (show 0 ≤ zwD d g by omega)
        omega
      have := zw_wV d hg2 (by omega)
      rw [wL_replicate, List.length_nil]
      have hm : ((f.wd.toNat * wV (zeroD d g) : Nat) : Int) = f.wd * zwD d g := by
        rw [Int.natCast_mul, this, Int.toNat_of_nonneg (by omega)]
      omega
    simp only [if_neg h16] at hw ⊢
    by_cases h17 : f.k = 17
    · simp only [if_pos h17] at hw ⊢
      have := wL_map (d := d) f.sub (fun g hg => ⟨(zw_bounds d (h.2 g hg)).1, zw_wV d (h.2 g hg)⟩) (by omega)
      rw [List.length_nil]
      omega
    simp only [if_neg h17] at hw ⊢
    simp [wL]
    omega
theorem zero_nu : ∀ (d : Nat) {ind : Bool} {f : Fld}, okZ d ind f → ¬ letsP f = true → (zeroD d f).nu = false
  | 0, _, _, h, _ => absurd h id
  | d + 1, ind, f, h, hl => by
    by_cases hk : f.k = 19 ∨ f.k = 20
    · obtain ⟨g, hg, hg2⟩ := one_child h (by omega)
      rw [zero_in hl hk (by rw [hg]; rfl)]
      exact zero_nu d hg2 (lets_child h hk hg hl)
    rw [zeroD, if_neg hl, if_neg hk]
    rfl
theorem ranged_zero {k : Int} (h1 : 3 ≤ k) (h2 : k ≤ 10) : rangedP k 0 = true := by
  obtain rfl | rfl | rfl | rfl | rfl | rfl | rfl | rfl : k = 3 ∨ k = 4 ∨ k = 5 ∨ k = 6 ∨ k = 7 ∨ k = 8 ∨ k = 9 ∨ k = 10 := by omega
  all_goals decide
/-- A zero value fits. -/
theorem zero_fit : ∀ (d : Nat) {ind : Bool} {f : Fld}, okZ d ind f → fitD d f (zeroD d f) = true
  | 0, _, _, h => absurd h id
  | d + 1, ind, f, h => by
    by_cases hl : letsP f = true
    · rw [zero_null hl, fitD]; simp [Vl.nu, Vl.num, Vl.tx, Vl.ls, hl]
    by_cases hk : f.k = 19 ∨ f.k = 20
    · obtain ⟨g, hg, hg2⟩ := one_child h (by omega)
      have hnu := zero_nu d hg2 (lets_child h hk hg hl)
      have ih := zero_fit d hg2
      rw [zero_in hl hk (by rw [hg]; rfl), fitD, if_neg (by rw [hnu]; simp), if_pos hk, hg]
      simp only [List.getElem?_cons_zero, ih, Bool.and_true]
      cases d with
      | zero => exact absurd hg2 id
      | succ d => rw [fitD, Bool.and_eq_true] at ih; exact ih.1
    have hsh := h.1.1
    have hwd := hsh.2.1
    have hmost : (f.sub.length : Int) ≤ mostK f.k := hsh.2.2.2.2
    rw [zeroD, if_neg hl, if_neg hk, fitD]
    simp only [Vl.ls, Vl.num, Vl.tx, Vl.nu, Bool.false_eq_true, if_false, if_neg hk]
    by_cases h18 : f.k = 18
    · obtain ⟨g, hg, hg2⟩ := first_child h h18
      obtain ⟨hpos, rfl⟩ := List.getElem?_eq_some_iff.1 hg
      simp [if_pos h18, show ¬ f.k = 14 by omega, h18, hpos]
      exact zero_fit d hg2
    simp only [if_neg h18]
    by_cases h16 : f.k = 16
    · obtain ⟨g, hg, hg2⟩ := one_child h (by omega)
      have h1 := wid16 hwd h16
      have ih := zero_fit d hg2
      simp only [if_pos h16, hg, List.getElem?_cons_zero, List.length_replicate]
      simp [h16, show f.wd.toNat ≤ 4096 by omega, show max f.wd 0 = f.wd by omega]
      intro i hi
      simp [childN, h16, hi, ih]
    simp only [if_neg h16]
    by_cases h17 : f.k = 17
    · have h1 : f.sub.length ≤ 32 := by
        have := hmost; unfold mostK at this; rw [if_neg (by omega), if_pos (by omega)] at this; omega
      simp only [if_pos h17, List.length_map]
      simp [h17, show f.sub.length ≤ 4096 by omega]
      intro i hi
      have hg : f.sub[i]? = some f.sub[i] := List.getElem?_eq_getElem hi
      simp [childN, h17, zero_fit d (h.2 _ (List.getElem_mem hi)), hi]
    simp only [if_neg h17]
    by_cases h15 : f.k = 15
    · simp [h15]
    by_cases h12 : f.k = 12
    · simp [h12]; decide
    by_cases h13 : f.k = 13
    · simp [h13]
    by_cases h14 : f.k = 14
    · have h1 := wid14 hwd h14
      simp [h14]; omega
    have hk1 : 1 ≤ f.k := hsh.1.1
    have hk2 : f.k ≤ 20 := hsh.1.2
    by_cases h2 : f.k = 2
    · simp [h2]
    by_cases h11 : f.k = 11
    · simp [h11]
    by_cases h1 : f.k = 1
    · have hn := h.1.2.1
      unfold nullsB at hn
      rw [if_pos h1] at hn
      exact absurd (by rw [lets_nl (by omega) h.1.2.1, hn]) hl
    have hr := ranged_zero (k := f.k) (by omega) (by omega)
    simp [h12, h13, h14, h15, h16, h17, h2, h11, hr, wholeP, show 3 ≤ f.k by omega, show f.k ≤ 10 by omega]
theorem zero_good {f : Fld} (h : mayD f = true) (hw : zwD 64 f ≤ 4194304) : goodD f (zeroD 64 f) = true := by
  unfold goodD
  rw [zero_fit 64 (may_okZ h), zw_wV 64 (may_okZ h) hw, Bool.true_and]
  exact decide_eq_true hw
end Go.Proofs.YtjkogfiidhjpcaaDoor
