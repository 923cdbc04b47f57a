/- YtilejcofleeeiaaGreatDoor: plain: values: what is written is read, what is read was written, and fits. -/
import Derived.Test.YtilejcofleeeiaaGreatDoorW213
namespace Go.Proofs.YtilejcofleeeiaaGreatDoor
open Go Go.K
set_option maxRecDepth 100000
set_option linter.unusedVariables false
set_option linter.unusedSimpArgs false
/-! Which bytes stand in which texts. -/
theorem small_dg {c : UInt8} (h : dgB c = true) : smallB c = true := by
  have := (dgB_iff c).1 h
  unfold smallB
  exact decide_eq_true (.inl this)
theorem hex_small {n : Nat} (h : n < 16) : smallB (hexC n) = true := by
  have := hexC_nat h
  unfold smallB
  refine decide_eq_true ?_
  split at this <;> omega
theorem hexs_small : ∀ (m x : Nat), ∀ c ∈ hexs x m, smallB c = true
  | 0, x, c, h => by cases h
  | m + 1, x, c, h => by
    rw [hexs] at h
    rcases List.mem_append.1 h with h | h
    · exact hexs_small m _ c h
    · rw [List.mem_singleton.1 h]; exact hex_small (Nat.mod_lt _ (by decide))
theorem itoa_small (n : Int) : ∀ c ∈ Lib.itoa n, smallB c = true := fun c hc => by
  obtain ⟨x, r, e, h1, h2⟩ := itoa_head n
  rw [e] at hc
  rcases List.mem_cons.1 hc with rfl | hc
  · rcases h1 with rfl | h1
    · decide
    · exact small_dg h1
  · exact small_dg (h2 c hc)
theorem fin_small (m : Nat) (a : Int) : ∀ c ∈ finT m a, smallB c = true := fun c hc => by
  unfold finT at hc
  rcases List.mem_append.1 hc with hc | hc
  · exact small_dg ((dec_all m).1 c hc)
  · rcases List.mem_cons.1 hc with rfl | hc
    · decide
    · exact itoa_small a c hc
theorem nan_small : ∀ c ∈ ([110, 97, 110] : List UInt8), smallB c = true := by decide
theorem floatU_small (x : Nat) : ∀ c ∈ floatU x, smallB c = true := fun c hc => by
  unfold floatU at hc
  split at hc
  · split at hc
    · revert c; decide
    · rcases List.mem_append.1 hc with hc | hc
      · exact nan_small c hc
      · exact hexs_small _ _ c hc
  · split at hc
    · revert c; decide
    · exact fin_small _ _ c hc
theorem numT_small (k n : Int) : ∀ c ∈ numT k n, smallB c = true := fun c hc => by
  unfold numT at hc
  split at hc
  · unfold boolT at hc
    split at hc <;> revert c <;> decide
  · split at hc
    · exact small_dg ((dec_all _).1 c hc)
    · split at hc
      · unfold floatT at hc
        split at hc
        · rcases List.mem_cons.1 hc with rfl | hc
          · decide
          · exact floatU_small _ c hc
        · exact floatU_small _ c hc
      · exact itoa_small _ c hc
theorem fin_pos (m : Nat) (a : Int) : finT m a ≠ [] := by unfold finT; simp
theorem floatU_pos (x : Nat) : floatU x ≠ [] := by obtain ⟨c, r, e, _⟩ := floatU_head x; rw [e]; simp
theorem numT_pos (k n : Int) : numT k n ≠ [] := by
  unfold numT
  split
  · unfold boolT; split <;> simp
  · split
    · exact (dec_all _).2.1
    · split
      · unfold floatT
        split
        · simp
        · exact floatU_pos _
      · obtain ⟨c, r, e, _⟩ := itoa_head n; rw [e]; simp
theorem null_head {l : List UInt8} {c : UInt8} {r : List UInt8} (h : l = c :: r) (hc : c ≠ 110) : l ≠ nullT := fun e => by
  rw [h] at e
  exact hc (List.cons.inj e).1
theorem dg_not {c d : UInt8} (h : dgB c = true) (hd : dgB d = false) : c ≠ d := fun e => by rw [e, hd] at h; cases h
theorem floatU_null (x : Nat) : floatU x ≠ nullT := by
  unfold floatU
  split
  · split
    · decide
    · intro e
      have := congrArg List.length e
      rw [List.length_append, hexs_len] at this
      simp [nullT] at this
  · split
    · decide
    · obtain ⟨c, r, e, h⟩ := finT_head (oddM x) (oddE x)
      exact null_head e (dg_not h (by decide))
theorem numT_null (k n : Int) : numT k n ≠ nullT := by
  unfold numT
  split
  · unfold boolT; split <;> decide
  · split
    · obtain ⟨h1, h2, _⟩ := dec_all (unsP n)
      obtain ⟨c, r, e⟩ := List.exists_cons_of_ne_nil h2
      exact null_head e (dg_not (h1 c (by rw [e]; exact .head _)) (by decide))
    · split
      · unfold floatT
        split
        · exact null_head rfl (by decide)
        · exact floatU_null _
      · obtain ⟨c, r, e, h, _⟩ := itoa_head n
        refine null_head e ?_
        rcases h with rfl | h
        · decide
        · exact dg_not h (by decide)
/-- What may stand behind a value's text. -/
def endsB (x : List UInt8) : Prop := x = [] ∨ ∃ c r, x = c :: r ∧ (c.toNat = 44 ∨ c.toNat = 93 ∨ c.toNat = 125 ∨ c.toNat = 41)
theorem ends_small {x : List UInt8} (h : endsB x) : ∀ c, x.head? = some c → smallB c = false := by
  rcases h with rfl | ⟨c, r, rfl, h⟩
  · intro c h; cases h
  · intro d hd
    cases hd
    unfold smallB
    exact decide_eq_false (by omega)
theorem ends_open {x : List UInt8} (h : endsB x) : ∀ c, x.head? = some c → (c.toNat = 40 ∨ nameB c = true) → False := by
  rcases h with rfl | ⟨c, r, rfl, h⟩
  · intro c h; cases h
  · intro d hd
    cases hd
    unfold nameB
    rintro (h1 | h1)
    · omega
    · have := of_decide_eq_true h1
      omega
theorem rowP_at {f : UInt8 → Bool} {s t x : List UInt8} {q : Nat} (hs : s.drop q = t ++ x) (ht : ∀ c ∈ t, f c = true) (hp : ∀ c, x.head? = some c → f c = false) : rowP f s q = t := by
  unfold rowP
  rw [hs, List.takeWhile_append_of_pos ht]
  cases x with
  | nil => simp
  | cons c r => rw [List.takeWhile_cons, if_neg (by rw [hp c rfl]; decide), List.append_nil]
theorem rowP_nil {f : UInt8 → Bool} {s x : List UInt8} {q : Nat} {c : UInt8} (hs : s.drop q = c :: x) (hc : f c = false) : rowP f s q = [] := rowP_at (t := []) hs (fun c h => by cases h) (fun d hd => by cases hd; exact hc)
theorem opens_none {s : List UInt8} {q : Nat} (h : s.drop q = []) : opensB s q = false := by
  unfold opensB
  rw [List.drop_eq_nil_iff] at h
  rw [List.getElem?_eq_none h]
theorem name_all {l : List UInt8} (h : isName l) : ∀ c ∈ l, nameB c = true := fun c hc => by
  obtain ⟨i, hi⟩ := List.mem_iff_getElem?.1 hc
  have h1 := (h.1 i (List.getElem?_eq_some_iff.1 hi).1).1
  rw [List.getD_eq_getElem?_getD, hi] at h1
  exact decide_eq_true h1
/-- A value's text that is no null's does not read as one. -/
theorem show_null : ∀ (d : Nat) (ind : Bool) (f : Fld) (v : Vl) (s x : List UInt8) (q : Nat), okT d ind f → fitD d f v = true → v.nu = false → s.drop q = showV d f v ++ x → endsB x → ¬ (rowP smallB s q = nullT ∧ opensB s (q + 4) = false)
  | 0, ind, f, v, s, x, q, hok, _, _, _, _ => hok.elim
  | d + 1, ind, f, v, s, x, q, hok, hf, hnu, hs, hx => by
    rw [showV, if_neg (by rw [hnu]; decide)] at hs
    by_cases hA : f.k = 19 ∨ f.k = 20
    · rw [if_pos hA] at hs
      have hlen : 1 ≤ f.sub.length := by
        have h1 := hok.1.1.2.2.2.1
        rcases hA with hk | hk <;> rw [hk] at h1 <;> simp [leastK] at h1 <;> omega
      obtain ⟨g, hg⟩ : ∃ g, f.sub[0]? = some g := ⟨_, List.getElem?_eq_getElem (by omega)⟩
      rw [hg] at hs
      exact show_null d _ g v s x q (hok.2 g (List.mem_of_getElem? hg)) (fit_wrap hnu hA hg hf) hnu hs hx
    rw [if_neg hA] at hs
    have nil_no : rowP smallB s q = [] → ¬ (rowP smallB s q = nullT ∧ opensB s (q + 4) = false) := fun h1 h2 => by rw [h1] at h2; exact absurd h2.1 (by decide)
    by_cases h12 : f.k = 12
    · rw [if_pos h12] at hs
      exact nil_no (rowP_nil (c := 34) hs (by decide))
    rw [if_neg h12] at hs
    by_cases h13 : f.k = 13 ∨ f.k = 14
    · rw [if_pos h13] at hs
      have : rowP smallB s q = [120] := rowP_at (t := [120]) (x := 34 :: (v.tx.flatMap byteT ++ [34] ++ x)) (by rw [hs]; rfl) (by decide) (fun c hc => by cases hc; decide)
      rw [this]
      exact fun h => absurd h.1 (by decide)
    rw [if_neg h13] at hs
    by_cases h18 : f.k = 18
    · rw [if_pos h18] at hs
      obtain ⟨g, z, hg, hz, hl, _, _, hgz⟩ := fit_union hnu h18 hf
      rw [hg, hz] at hs
      have hnm := (hok.2 g (List.mem_of_getElem? hg)).name
      have hs' : s.drop q = g.nm ++ (40 :: (showV d g z ++ [41] ++ x)) := by rw [hs, List.append_assoc]; rfl
      rintro ⟨h1, h2⟩
      -- the row of small letters lies within the name
      have hpre : nullT <+: g.nm := by
        have e1 : rowP smallB s q = nullT := h1
        unfold rowP at e1
        rw [hs'] at e1
        have hp : nullT <+: g.nm ++ (40 :: (showV d g z ++ [41] ++ x)) := by rw [← e1]; exact List.takeWhile_prefix _
        refine pre_pre hp ?_
        rcases Nat.lt_or_ge g.nm.length nullT.length with hlt | hge
        · exfalso
          obtain ⟨t, ht⟩ := hp
          have h40 : (nullT ++ t)[g.nm.length]? = some 40 := by rw [ht, List.getElem?_append_right (Nat.le_refl _), Nat.sub_self]; rfl
          rw [List.getElem?_append_left hlt] at h40
          have : (40 : UInt8) ∈ nullT := List.mem_of_getElem? h40
          exact absurd this (by decide)
        · exact hge
      obtain ⟨t, ht⟩ := hpre
      rw [← ht, List.append_assoc] at hs'
      have h4 := drop_to hs'
      have hop : opensB s (q + 4) = true := by
        unfold opensB
        cases t with
        | nil =>
          rw [(drop_cons (show s.drop (q + 4) = 40 :: _ from h4)).1]
          rfl
        | cons c t =>
          rw [(drop_cons (show s.drop (q + 4) = c :: _ from h4)).1]
          have := name_all hnm c (by rw [← ht]; exact List.mem_append_right _ (.head _))
          simp [this]
      rw [hop] at h2
      cases h2
    rw [if_neg h18] at hs
    by_cases h15 : f.k = 15 ∨ f.k = 16 ∨ f.k = 17
    · rw [if_pos h15] at hs
      exact nil_no (rowP_nil (c := if f.k = 17 then 123 else 91) hs (by split <;> decide))
    rw [if_neg h15] at hs
    rw [rowP_at hs (numT_small _ _) (ends_small hx)]
    exact fun h => numT_null _ _ h.1
theorem ends_44 (x : List UInt8) : endsB (44 :: x) := .inr ⟨44, x, rfl, .inl rfl⟩
theorem ends_93 (x : List UInt8) : endsB (93 :: x) := .inr ⟨93, x, rfl, .inr (.inl rfl)⟩
theorem ends_125 (x : List UInt8) : endsB (125 :: x) := .inr ⟨125, x, rfl, .inr (.inr (.inl rfl))⟩
theorem ends_41 (x : List UInt8) : endsB (41 :: x) := .inr ⟨41, x, rfl, .inr (.inr (.inr rfl))⟩
/-- A value that reads back. -/
def Backs (s : List UInt8) (T : Vl → List UInt8) (R : Nat → PV Vl) (v : Vl) : Prop := ∀ (q : Nat) (x : List UInt8), s.drop q = T v ++ x → endsB x → R q = .ok v (q + (T v).length)
theorem itemsT_ends (f : Fld) (T : Fld → Vl → List UInt8) (i : Nat) (hi : 0 < i) (l : List Vl) (x : List UInt8) : endsB (itemsT f T i l ++ 93 :: x) := by
  cases l with
  | nil => exact ends_93 x
  | cons v l =>
    rw [itemsT, itemT, if_neg (by omega)]
    exact ends_44 _
/-- The items of a list or a span read back. -/
theorem items_back (s : List UInt8) (f g : Fld) (T : Fld → Vl → List UInt8) (R : Nat → PV Vl) (hk : f.k = 15 ∨ f.k = 16) (hg : f.sub[0]? = some g) : ∀ (l : List Vl) (m i q : Nat) (x : List UInt8), 4097 < m + i → (f.k = 16 → ((i + l.length : Nat) : Int) = f.wd ∧ i + l.length ≤ 64) → (f.k = 15 → i + l.length ≤ 4096) → (∀ v ∈ l, Backs s (T g) R v) →
    (∀ v ∈ l, (T g v).head? ≠ some 93) → (∀ v ∈ l, T g v ≠ []) → s.drop q = itemsT f T i l ++ 93 :: x → itemsV s f.k f.wd R m i q = .ok l (q + (itemsT f T i l).length + 1)
  | [], 0, i, q, x, hm, h16, h15, hb, hh, hne, hs => by
    exfalso
    rcases hk with hk | hk
    · have := h15 hk; simp at this; omega
    · have := (h16 hk).2; simp at this; omega
  | [], m + 1, i, q, x, hm, h16, h15, hb, hh, hne, hs => by
    obtain ⟨hc, _⟩ := drop_cons (show s.drop q = 93 :: x from hs)
    rw [itemsV]
    rcases hk with hk | hk
    · rw [if_neg (by rw [hk]; rintro ⟨h, _⟩; revert h; decide), if_pos ⟨hk, hc⟩]
      rfl
    · rw [if_pos ⟨hk, by have := (h16 hk).1; simpa using this⟩, mustV_yes (t := [93]) (x := x) hs]
      rfl
  | v :: l, 0, i, q, x, hm, h16, h15, hb, hh, hne, hs => by
    exfalso
    rcases hk with hk | hk
    · have := h15 hk; simp at this; omega
    · have := (h16 hk).2; simp at this; omega
  | v :: l, m + 1, i, q, x, hm, h16, h15, hb, hh, hne, hs => by
    have h17 : ¬ f.k = 17 := by omega
    have hch : childN f i = 0 := if_neg h17
    have e1 : itemT f T i v = (if i = 0 then [] else [44]) ++ T g v := by
      unfold itemT
      rw [hch, hg]
      congr 1
      split
      · rw [if_neg h17]; rfl
      · rfl
    rw [itemsT, e1, List.append_assoc, List.append_assoc] at hs
    have hx := itemsT_ends f T (i + 1) (by omega) l x
    have key : ∀ q', s.drop q' = T g v ++ (itemsT f T (i + 1) l ++ 93 :: x) → ((if f.k = 15 ∧ i = 4096 then .no 3 q' else (R q').and fun v r2 => (itemsV s f.k f.wd R m (i + 1) r2).and fun l r3 => .ok (v :: l) r3) : PV (List Vl)) = .ok (v :: l) (q' + (T g v).length + (itemsT f T (i + 1) l).length + 1) := fun q' hq' => by
      rw [if_neg (by rintro ⟨h, h2⟩; have := h15 h; rw [List.length_cons] at this; omega), hb v (.head _) q' _ hq' hx, PV.and_ok]
      rw [items_back s f g T R hk hg l m (i + 1) (q' + (T g v).length) x (by omega) (fun h => by have := h16 h; rw [List.length_cons] at this; exact ⟨by rw [← this.1]; congr 1; omega, by omega⟩) (fun h => by have := h15 h; rw [List.length_cons] at this; omega) (fun w hw => hb w (.tail _ hw)) (fun w hw => hh w (.tail _ hw)) (fun w hw => hne w (.tail _ hw)) (drop_to hq')]
      rfl
    have hn16 : ¬ (f.k = 16 ∧ (i : Int) = f.wd) := by rintro ⟨h, h2⟩; have := (h16 h).1; rw [List.length_cons] at this; omega
    rw [itemsV, if_neg hn16]
    by_cases h0 : i = 0
    · subst h0
      rw [if_pos rfl, List.nil_append] at hs
      rw [if_neg, if_pos rfl, PV.and_ok, key q hs]
      · congr 1
        rw [itemsT, e1, if_pos rfl, List.nil_append, List.length_append]
        omega
      · rintro ⟨_, h⟩
        obtain ⟨c, r, e⟩ := List.exists_cons_of_ne_nil (hne v (.head _))
        rw [e] at hs
        rw [(drop_cons hs).1] at h
        exact hh v (.head _) (by rw [e]; exact h)
    · rw [if_neg h0] at hs
      rw [if_neg, if_neg h0, mustV_yes (t := [44]) hs, PV.and_ok, key _ (drop_to hs)]
      · congr 1
        rw [itemsT, e1, if_neg h0, List.length_append, List.length_append]
        omega
      · rintro ⟨_, h⟩
        rw [(drop_cons (show s.drop q = 44 :: _ from hs)).1] at h
        exact absurd h (by decide)
/-- The children of a struct read back. -/
theorem kids_back (s : List UInt8) (f : Fld) (T : Fld → Vl → List UInt8) (R : Fld → Nat → PV Vl) (hk : f.k = 17) : ∀ (l : List Vl) (gs : List Fld) (i q : Nat) (x : List UInt8), gs.length = l.length → (∀ j, gs[j]? = f.sub[i + j]?) → (∀ (j : Nat) (g : Fld) (v : Vl), gs[j]? = some g → l[j]? = some v → Backs s (T g) (R g) v) →
    s.drop q = itemsT f T i l ++ 125 :: x → kidsV s R (decide (i = 0)) gs q = .ok l (q + (itemsT f T i l).length + 1)
  | [], [], i, q, x, hl, hgs, hb, hs => by
    rw [kidsV, mustV_yes (t := [125]) (x := x) hs]
    rfl
  | [], g :: gs, i, q, x, hl, hgs, hb, hs => by simp at hl
  | v :: l, [], i, q, x, hl, hgs, hb, hs => by simp at hl
  | v :: l, g :: gs, i, q, x, hl, hgs, hb, hs => by
    have hg : f.sub[i]? = some g := by have := hgs 0; simpa using this.symm
    have hch : childN f i = i := if_pos hk
    have e1 : itemT f T i v = (if i = 0 then [] else [44]) ++ ((g.nm ++ [58]) ++ T g v) := by
      unfold itemT
      rw [hch, hg]
      simp only
      rw [if_pos hk]
    rw [itemsT, e1] at hs
    have hx : endsB (itemsT f T (i + 1) l ++ 125 :: x) := by
      cases l with
      | nil => exact ends_125 x
      | cons w l =>
        rw [itemsT, itemT, if_neg (by omega)]
        exact ends_44 _
    have key : ∀ q', s.drop q' = (g.nm ++ [58]) ++ (T g v ++ (itemsT f T (i + 1) l ++ 125 :: x)) → (((mustV s (g.nm ++ [58]) q').and fun _ r => (R g r).and fun v r => (kidsV s R false gs r).and fun vs r => .ok (v :: vs) r) : PV (List Vl)) = .ok (v :: l) (q' + (g.nm ++ [58]).length + (T g v).length + (itemsT f T (i + 1) l).length + 1) := fun q' hq' => by
      have h2 := drop_to hq'
      rw [mustV_yes hq', PV.and_ok, hb 0 g v rfl rfl _ _ h2 hx, PV.and_ok]
      have ih := kids_back s f T R hk l gs (i + 1) _ x (by simpa using hl) (fun j => by have := hgs (j + 1); rw [List.getElem?_cons_succ] at this; rw [this]; congr 1; omega) (fun j g' v' h3 h4 => hb (j + 1) g' v' (by simpa using h3) (by simpa using h4)) (drop_to h2)
      rw [decide_eq_false (by omega)] at ih
      rw [ih]
      rfl
    rw [kidsV]
    by_cases h0 : i = 0
    · subst h0
      rw [if_pos rfl, List.nil_append, List.append_assoc, List.append_assoc] at hs
      rw [show (if decide (0 = 0) = true then (PV.ok () q : PV Unit) else mustV s [44] q) = .ok () q from rfl, PV.and_ok, key q hs]
      congr 1
      rw [itemsT, e1, if_pos rfl, List.nil_append]
      simp only [List.length_append]
      omega
    · rw [if_neg h0, List.append_assoc, List.append_assoc, List.append_assoc] at hs
      rw [decide_eq_false h0, if_neg (by decide), mustV_yes (t := [44]) hs, PV.and_ok, key _ (drop_to hs)]
      congr 1
      rw [itemsT, e1, if_neg h0]
      simp only [List.length_append]
      omega
/-- No value's text is empty, nor begins with a closing bracket. -/
theorem show_head : ∀ (d : Nat) (ind : Bool) (f : Fld) (v : Vl), okT d ind f → fitD d f v = true → ∃ c r, showV d f v = c :: r ∧ c.toNat ≠ 93
  | 0, ind, f, v, hok, _ => hok.elim
  | d + 1, ind, f, v, hok, hf => by
    rw [showV]
    by_cases hnu : v.nu = true
    · rw [if_pos hnu]; exact ⟨_, _, rfl, by decide⟩
    have hnf : v.nu = false := by simpa using hnu
    rw [if_neg hnu]
    by_cases hA : f.k = 19 ∨ f.k = 20
    · rw [if_pos hA]
      have hlen : 1 ≤ f.sub.length := by
        have h1 := hok.1.1.2.2.2.1
        rcases hA with hk | hk <;> rw [hk] at h1 <;> simp [leastK] at h1 <;> omega
      obtain ⟨g, hg⟩ : ∃ g, f.sub[0]? = some g := ⟨_, List.getElem?_eq_getElem (by omega)⟩
      rw [hg]
      exact show_head d _ g v (hok.2 g (List.mem_of_getElem? hg)) (fit_wrap hnf hA hg hf)
    rw [if_neg hA]
    by_cases h12 : f.k = 12
    · rw [if_pos h12]; exact ⟨_, _, rfl, by decide⟩
    rw [if_neg h12]
    by_cases h13 : f.k = 13 ∨ f.k = 14
    · rw [if_pos h13]; exact ⟨_, _, rfl, by decide⟩
    rw [if_neg h13]
    by_cases h18 : f.k = 18
    · rw [if_pos h18]
      obtain ⟨g, z, hg, hz, hl, _, _, hgz⟩ := fit_union hnf h18 hf
      rw [hg, hz]
      have hnm := (hok.2 g (List.mem_of_getElem? hg)).name
      obtain ⟨c, r, e⟩ := List.exists_cons_of_ne_nil hnm.2.1
      refine ⟨c, r ++ 40 :: (showV d g z ++ [41]), by simp only [e]; rfl, fun h => ?_⟩
      have := of_decide_eq_true (name_all hnm c (by rw [e]; exact .head _))
      omega
    rw [if_neg h18]
    by_cases h15 : f.k = 15 ∨ f.k = 16 ∨ f.k = 17
    · rw [if_pos h15]
      exact ⟨_, _, rfl, by split <;> decide⟩
    rw [if_neg h15]
    obtain ⟨c, r, e⟩ := List.exists_cons_of_ne_nil (numT_pos f.k v.num)
    refine ⟨c, r, e, fun h => ?_⟩
    have := of_decide_eq_true (numT_small f.k v.num c (by rw [e]; exact .head _))
    omega
theorem choice_back (s : List UInt8) (R : Fld → Nat → PV Vl) (T : Vl → List UInt8) (l : List Fld) (i : Nat) (g : Fld) (z : Vl) (q : Nat) (x : List UInt8) (hg : l[i]? = some g) (hnm : isName g.nm) (hap : ∀ (i j : Nat) (g h : Fld), l[i]? = some g → l[j]? = some h → g.nm = h.nm → i = j) (hb : Backs s T (R g) z)
    (hs : s.drop q = g.nm ++ 40 :: (T z ++ 41 :: x)) : choiceV s R l q = .ok (.mk false i [] [z]) (q + (g.nm ++ 40 :: (T z ++ [41])).length) := by
  have hrow : rowP nameB s q = g.nm := rowP_at hs (name_all hnm) (fun c hc => by cases hc; decide)
  have hil := (List.getElem?_eq_some_iff.1 hg).1
  have hige := (List.getElem?_eq_some_iff.1 hg).2
  have hfi : l.findIdx? (fun h => h.nm == g.nm) = some i := by
    rw [List.findIdx?_eq_some_iff_getElem]
    refine ⟨hil, by rw [hige]; simp, fun j hj hc => ?_⟩
    have hjl : j < l.length := by omega
    have := hap j i l[j] g (List.getElem?_eq_getElem hjl) hg (by simpa using hc)
    omega
  have hfd : l.find? (fun h => h.nm == g.nm) = some g := by
    rw [List.find?_eq_some_iff_getElem]
    refine ⟨by simp, i, hil, hige, fun j hj => ?_⟩
    have hjl : j < l.length := by omega
    simp only [Bool.not_eq_true', beq_eq_false_iff_ne, ne_eq]
    intro hc
    have := hap j i l[j] g (List.getElem?_eq_getElem hjl) hg hc
    omega
  unfold choiceV
  rw [hrow, hfi, hfd]
  simp only
  have h1 := drop_to hs
  rw [runP_eq, hrow, mustV_yes (t := [40]) h1, PV.and_ok]
  have h2 := drop_to (t := [40]) h1
  rw [hb _ _ h2 (ends_41 x), PV.and_ok, mustV_yes (t := [41]) (x := x) (drop_to h2), PV.and_ok]
  congr 1
  simp only [List.length_append, List.length_cons, List.length_nil]
  omega
/-- What is written is read. -/
theorem show_back (s : List UInt8) : ∀ (d : Nat) (ind : Bool) (f : Fld) (v : Vl), okT d ind f → fitD d f v = true → rngD d v → Backs s (showV d f) (readV s d f) v
  | 0, ind, f, v, hok, _, _ => hok.elim
  | d + 1, ind, f, v, hok, hf, hr => by
    intro q x hs hx
    have hs0 := hs
    have hnulT := show_null (d + 1) ind f v s x q hok hf
    rw [showV] at hs
    rw [readV, showV]
    by_cases hnu : v.nu = true
    · rw [if_pos hnu] at hs ⊢
      have hfit : (decide (v.ls.length ≤ 4096) && (decide (v.num = 0) && (decide (v.tx = []) && (decide (v.ls.length = 0) && letsP f)))) = true := by
        rw [fitD, if_pos hnu] at hf; exact hf
      simp only [Bool.and_eq_true, decide_eq_true_eq] at hfit
      obtain ⟨_, f1, f2, f3, f4⟩ := hfit
      have hop : opensB s (q + 4) = false := by
        have h4 : s.drop (q + 4) = x := drop_to (t := nullT) hs
        unfold opensB
        cases hq : s[q + 4]? with
        | none => rfl
        | some c =>
          have hxc : x.head? = some c := by
            have := cons_drop hq
            rw [h4] at this
            rw [this]; rfl
          have := ends_open hx c hxc
          simp only [Bool.or_eq_false_iff, decide_eq_false_iff_not]
          exact ⟨fun h => this (.inl h), by simpa using fun h => this (.inr h)⟩
      rw [if_pos ⟨f4, rowP_at hs (by decide) (ends_small hx), hop⟩]
      have ev : v = .mk true 0 [] [] := by
        obtain ⟨a, b, c, e⟩ := v
        simp only [Vl.nu, Vl.num, Vl.tx, Vl.ls] at hnu f1 f2 f3
        rw [hnu, f1, f2, List.eq_nil_of_length_eq_zero f3]
      rw [ev]
      rfl
    have hnf : v.nu = false := by simpa using hnu
    rw [if_neg hnu] at hs ⊢
    rw [if_neg (fun h => hnulT hnf hs0 hx h.2)]
    by_cases hA : f.k = 19 ∨ f.k = 20
    · rw [if_pos hA] at hs ⊢
      rw [if_pos hA]
      have hlen : 1 ≤ f.sub.length := by
        have h1 := hok.1.1.2.2.2.1
        rcases hA with hk | hk <;> rw [hk] at h1 <;> simp [leastK] at h1 <;> omega
      obtain ⟨g, hg⟩ : ∃ g, f.sub[0]? = some g := ⟨_, List.getElem?_eq_getElem (by omega)⟩
      rw [hg] at hs ⊢
      exact show_back s d _ g v (hok.2 g (List.mem_of_getElem? hg)) (fit_wrap hnf hA hg hf) (rng_down d v hr) q x hs hx
    rw [if_neg hA] at hs ⊢
    rw [if_neg hA]
    have ev : ∀ (num : Int) (tx : List UInt8) (ls : List Vl), v.num = num → v.tx = tx → v.ls = ls → v = .mk false num tx ls := fun num tx ls h1 h2 h3 => by
      obtain ⟨a, b, c, e⟩ := v
      simp only [Vl.nu, Vl.num, Vl.tx, Vl.ls] at hnf h1 h2 h3
      rw [hnf, h1, h2, h3]
    have hf' := hf
    rw [fitD, if_neg hnu, if_neg hA] at hf'
    by_cases h12 : f.k = 12
    · rw [if_pos h12] at hs ⊢
      rw [if_pos h12]
      rw [if_neg (by omega), if_neg (by omega), if_pos (.inl h12)] at hf'
      simp only [Bool.and_eq_true, decide_eq_true_eq, Bool.or_eq_true, Bool.not_eq_true', decide_eq_false_iff_not] at hf'
      obtain ⟨_, f1, f2, f3, _⟩ := hf'
      have hv : Lib.validD v.tx = true := f3.resolve_left (fun h => h h12)
      have h1 : s.drop q = [34] ++ (v.tx.flatMap charT ++ 34 :: x) := by rw [hs]; simp [textT]
      have h2 := drop_to h1
      have hlen : v.tx.length ≤ s.length := by
        have h5 := congrArg List.length h2
        simp only [List.length_drop, List.length_append, List.length_cons] at h5
        have h6 : v.tx.length ≤ (v.tx.flatMap charT).length := by
          have : ∀ l : List UInt8, l.length ≤ (l.flatMap charT).length := fun l => by
            induction l with
            | nil => simp
            | cons c l ih => rw [List.flatMap_cons, List.length_append, List.length_cons]; have := (char_len c).1; omega
          exact this _
        omega
      unfold quoteV
      rw [mustV_yes h1, PV.and_ok, restV_yes s s.length v.tx (s.length + 1) _ x hlen (by omega) h2 hv, PV.and_ok, ev 0 v.tx [] f1 rfl (List.eq_nil_of_length_eq_zero f2)]
      congr 1
      simp only [textT, List.length_append, List.length_cons, List.length_nil, Vl.tx]
      omega
    rw [if_neg h12] at hs ⊢
    rw [if_neg h12]
    by_cases h13 : f.k = 13 ∨ f.k = 14
    · rw [if_pos h13] at hs ⊢
      rw [if_neg (by omega), if_neg (by omega), if_pos (by omega)] at hf'
      simp only [Bool.and_eq_true, decide_eq_true_eq, Bool.or_eq_true, Bool.not_eq_true', decide_eq_false_iff_not] at hf'
      obtain ⟨_, f1, f2, _, f4⟩ := hf'
      have h1 : s.drop q = [120, 34] ++ (v.tx.flatMap byteT ++ 34 :: x) := by rw [hs]; simp [bytesT]
      have h2 := drop_to h1
      have hlen : v.tx.length ≤ s.length := by
        have h5 := congrArg List.length h2
        simp only [List.length_drop, List.length_append, List.length_cons] at h5
        have h6 : v.tx.length ≤ (v.tx.flatMap byteT).length := by
          have : ∀ l : List UInt8, l.length ≤ (l.flatMap byteT).length := fun l => by
            induction l with
            | nil => simp
            | cons c l ih => rw [List.flatMap_cons, List.length_append, List.length_cons]; show _ ≤ 2 + _; omega
          exact this _
        omega
      have h3 : rawV s q = .ok v.tx (q + 2 + (v.tx.flatMap byteT).length + 1) := by
        unfold rawV
        rw [mustV_yes h1, PV.and_ok]
        exact hexV_yes s v.tx (s.length + 1) _ x (by omega) h2
      have e : q + 2 + (v.tx.flatMap byteT).length + 1 = q + (bytesT v.tx).length := by
        simp only [bytesT, List.length_append, List.length_cons, List.length_nil]; omega
      rcases h13 with hk | hk
      · rw [if_pos hk, h3, PV.and_ok, e, ← ev 0 v.tx [] f1 rfl (List.eq_nil_of_length_eq_zero f2)]
      · rw [if_neg (by omega), if_pos hk, h3, PV.and_ok, if_pos (f4.resolve_left fun h => h hk), e, ← ev 0 v.tx [] f1 rfl (List.eq_nil_of_length_eq_zero f2)]
    rw [if_neg h13] at hs ⊢
    rw [if_neg (by omega), if_neg (by omega)]
    by_cases h18 : f.k = 18
    · rw [if_pos h18] at hs ⊢
      rw [if_neg (by omega), if_neg (by omega), if_pos h18]
      obtain ⟨g, z, hg, hz, hl, h0, hlt, hgz⟩ := fit_union hnf h18 hf
      rw [hg, hz] at hs ⊢
      simp only at hs ⊢
      have hgm := List.mem_of_getElem? hg
      have hb := show_back s d _ g z (hok.2 g hgm) hgz (hr.2 z (List.mem_of_getElem? hz))
      rw [choice_back s (readV s d) (showV d g) f.sub v.num.toNat g z q x hg (hok.2 g hgm).name hok.1.2.2.2.2.2 hb (by rw [hs]; simp)]
      rw [if_pos h18] at hf'
      simp only [Bool.and_eq_true, decide_eq_true_eq] at hf'
      have e2 : v.ls = [z] := by
        obtain ⟨c, hc⟩ := List.length_eq_one_iff.1 hl
        rw [hc] at hz ⊢
        exact congrArg (fun u => [u]) (Option.some.inj hz)
      have e3 : v = .mk false v.num [] [z] := ev v.num [] [z] rfl hf'.2.1 e2
      have e4 : ((v.num.toNat : Nat) : Int) = v.num := Int.toNat_of_nonneg h0
      rw [e4, ← e3]
    rw [if_neg h18] at hs
    rw [if_neg h18, if_neg h18]
    by_cases h15 : f.k = 15 ∨ f.k = 16 ∨ f.k = 17
    · rw [if_pos h15] at hs ⊢
      obtain ⟨f16, f17, f0, ftx, fall⟩ := fit_list hnf h15 hf
      have hb : ∀ (i : Nat) (z : Vl), v.ls[i]? = some z → ∃ g, f.sub[childN f i]? = some g ∧ fitD d g z = true ∧ okT d (ind || f.k == 19) g ∧ Backs s (showV d g) (readV s d g) z := fun i z hz => by
        obtain ⟨g, hg, hgz⟩ := fall i z hz
        exact ⟨g, hg, hgz, hok.2 g (List.mem_of_getElem? hg), show_back s d _ g z (hok.2 g (List.mem_of_getElem? hg)) hgz (hr.2 z (List.mem_of_getElem? hz))⟩
      have h4096 : v.ls.length ≤ 4096 := by
        rw [fitD] at hf
        simp only [Bool.and_eq_true, decide_eq_true_eq] at hf
        exact hf.1
      have evl := ev 0 [] v.ls f0 ftx rfl
      by_cases h17 : f.k = 17
      · rw [if_pos h17, if_pos h17] at hs
        rw [if_neg (by omega), if_pos h17, if_pos h17, if_pos h17]
        have h1 : s.drop q = [123] ++ (itemsT f (showV d) 0 v.ls ++ 125 :: x) := by rw [hs]; simp
        have h2 := drop_to h1
        have h3 := kids_back s f (showV d) (readV s d) h17 v.ls f.sub 0 _ x (f17 h17).symm (fun j => by rw [Nat.zero_add]) (fun j g z hg hz => by
          obtain ⟨g', hg', _, _, hb'⟩ := hb j z hz
          rw [show childN f j = j from if_pos h17, hg] at hg'
          cases hg'
          exact hb') h2
        rw [mustV_yes h1, PV.and_ok]
        rw [show decide (0 = 0) = true from rfl] at h3
        rw [h3, PV.and_ok, ← evl]
        congr 1
        simp only [List.length_append, List.length_cons, List.length_nil]
        omega
      · have hk2 : f.k = 15 ∨ f.k = 16 := by omega
        rw [if_neg h17, if_neg h17] at hs
        rw [if_pos hk2, if_neg h17, if_neg h17]
        have hlen : 1 ≤ f.sub.length := by
          have h1 := hok.1.1.2.2.2.1
          rcases hk2 with hk | hk <;> rw [hk] at h1 <;> simp [leastK] at h1 <;> omega
        obtain ⟨g, hg⟩ : ∃ g, f.sub[0]? = some g := ⟨_, List.getElem?_eq_getElem (by omega)⟩
        have hch : ∀ i, childN f i = 0 := fun i => if_neg h17
        have hmem : ∀ z ∈ v.ls, fitD d g z = true ∧ Backs s (showV d g) (readV s d g) z := fun z hz => by
          obtain ⟨i, hi⟩ := List.mem_iff_getElem?.1 hz
          obtain ⟨g', hg', h5, _, h6⟩ := hb i z hi
          rw [hch, hg] at hg'
          cases hg'
          exact ⟨h5, h6⟩
        have hokg := hok.2 g (List.mem_of_getElem? hg)
        have h1 : s.drop q = [91] ++ (itemsT f (showV d) 0 v.ls ++ 93 :: x) := by rw [hs]; simp
        have h2 := drop_to h1
        have hwd : f.k = 16 → f.wd ≤ 64 := fun h16 => by
          have := hok.1.1.2.1
          rw [h16] at this
          have h9 : 1 ≤ f.wd ∧ f.wd ≤ 64 := by simpa [wideP, widthK] using this
          exact h9.2
        have h3 := items_back s f g (showV d) (fun r => readV s d g r) hk2 hg v.ls 4200 0 _ x (by omega) (fun h16 => by
            have := f16 h16
            have := hwd h16
            exact ⟨by simpa using f16 h16, by omega⟩) (fun _ => by omega) (fun z hz => (hmem z hz).2) (fun z hz => by
            obtain ⟨c, r, e, hc⟩ := show_head d _ g z hokg (hmem z hz).1
            rw [e]
            intro h
            cases h
            exact hc rfl) (fun z hz => by
            obtain ⟨c, r, e, hc⟩ := show_head d _ g z hokg (hmem z hz).1
            rw [e]; simp) h2
        simp only [hg]
        rw [mustV_yes h1, PV.and_ok, h3, PV.and_ok, ← evl]
        congr 1
        simp only [List.length_append, List.length_cons, List.length_nil]
        omega
    rw [if_neg h15] at hs ⊢
    rw [if_neg (by omega), if_neg (by omega)]
    rw [if_neg h18, if_neg h15, if_neg (by omega)] at hf'
    simp only [Bool.and_eq_true, decide_eq_true_eq] at hf'
    obtain ⟨_, f1, f2, f3⟩ := hf'
    have hrow := rowP_at hs (numT_small _ _) (ends_small hx)
    have hnum : isNum f.k v.num := by
      refine ⟨hr.1, ?_⟩
      by_cases k2 : f.k = 2
      · rw [if_pos k2] at f3 ⊢; exact of_decide_eq_true f3
      rw [if_neg k2] at f3 ⊢
      by_cases k11 : f.k = 11
      · rw [if_pos k11]; trivial
      rw [if_neg k11] at f3 ⊢
      simpa using f3
    rw [hrow, readN_yes hnum rfl]
    simp only
    rw [runP_eq, hrow, ← ev v.num [] [] rfl f1 (List.eq_nil_of_length_eq_zero f2)]
end Go.Proofs.YtilejcofleeeiaaGreatDoor
