/- YtilejcofleeeiaaGreatDoor: plain: the places where reading ends; there and back. -/
import Derived.Test.YtilejcofleeeiaaGreatDoorW215
namespace Go.Proofs.YtilejcofleeeiaaGreatDoor
open Go Go.K
set_option maxRecDepth 100000
set_option linter.unusedVariables false
set_option linter.unusedSimpArgs false
def PV.place {α : Type} : PV α → Nat
  | .no _ p => p
  | .ok _ p => p
def PV.err {α : Type} : PV α → Int
  | .no e _ => e
  | .ok _ _ => 8
/-- Reading goes on from here, and stays within the text. -/
def Within {α : Type} (s : List UInt8) (q : Nat) (r : PV α) : Prop := q ≤ r.place ∧ r.place ≤ s.length ∧ r.err ≠ 0
theorem Within.and {α β : Type} {s : List UInt8} {q : Nat} {r : PV α} {f : α → Nat → PV β} (h : Within s q r) (hf : ∀ x p, r = .ok x p → p ≤ s.length → Within s p (f x p)) : Within s q (r.and f) := by
  cases r with
  | no e p => exact h
  | ok x p =>
    have h1 := hf x p rfl h.2.1
    exact ⟨Nat.le_trans h.1 h1.1, h1.2⟩
theorem within_no {α : Type} {s : List UInt8} {q : Nat} (e : Int) (h : q ≤ s.length) (he : e ≠ 0 := by decide) : Within s q (.no e q : PV α) := ⟨Nat.le_refl _, h, he⟩
theorem within_ok {α : Type} {s : List UInt8} {q p : Nat} (x : α) (h1 : q ≤ p) (h : p ≤ s.length) : Within s q (.ok x p) := ⟨h1, h, (show (8 : Int) ≠ 0 by decide)⟩
theorem must_in (s t : List UInt8) {q : Nat} (hq : q ≤ s.length) : Within s q (mustV s t q) := by
  unfold mustV
  split
  · rename_i h
    have := (List.isPrefixOf_iff_prefix.1 h).length_le
    rw [List.length_drop] at this
    exact within_ok _ (Nat.le_add_right _ _) (by omega)
  · exact within_no _ hq
theorem rest_in (s : List UInt8) : ∀ (m q : Nat), q ≤ s.length → Within s q (restV s m q)
  | 0, q, hq => within_no _ hq
  | m + 1, q, hq => by
    rw [restV]
    cases hc : s[q]? with
    | none => exact within_no _ hq
    | some c =>
      have hlt := (List.getElem?_eq_some_iff.1 hc).1
      have hne : s.drop q ≠ [] := fun e => by rw [List.drop_eq_nil_iff] at e; omega
      simp only
      split
      · exact within_ok _ (Nat.le_succ _) (by omega)
      · split
        · cases he : escR (s.drop q) with
          | none => exact within_no _ hq
          | some p =>
            obtain ⟨x, n⟩ := p
            obtain ⟨_, h2, h3, _⟩ := escR_some he
            have h4 := h2.length_le
            rw [List.length_drop] at h4
            have h5 := rest_in s m (q + n) (by omega)
            have h6 : Within s q (restV s m (q + n)) := ⟨Nat.le_trans (Nat.le_add_right _ _) h5.1, h5.2⟩
            exact h6.and fun l p _ hp => within_ok _ (Nat.le_refl _) hp
        · split
          · exact within_no _ hq
          · have h4 := utf8_le _ hne
            rw [List.length_drop] at h4
            have h5 := rest_in s m (q + utf8P (s.drop q)) (by omega)
            have h6 : Within s q (restV s m (q + utf8P (s.drop q))) := ⟨Nat.le_trans (Nat.le_add_right _ _) h5.1, h5.2⟩
            exact h6.and fun l p _ hp => within_ok _ (Nat.le_refl _) hp
theorem quote_in (s : List UInt8) {q : Nat} (hq : q ≤ s.length) : Within s q (quoteV s q) := (must_in s [34] hq).and fun _ p _ hp => rest_in s _ p hp
theorem digAt_in (s : List UInt8) {q : Nat} (hq : q ≤ s.length) : Within s q (digAt s q) := by
  unfold digAt
  split
  · exact within_no _ hq
  · rename_i d hd
    obtain ⟨c, hc, _⟩ := Option.bind_eq_some_iff.1 hd
    have := (List.getElem?_eq_some_iff.1 hc).1
    exact within_ok _ (Nat.le_succ _) (by omega)
theorem hex_in (s : List UInt8) : ∀ (m q : Nat), q ≤ s.length → Within s q (hexV s m q)
  | 0, q, hq => within_no _ hq
  | m + 1, q, hq => by
    rw [hexV]
    split
    · rename_i hc
      have := (List.getElem?_eq_some_iff.1 hc).1
      exact within_ok _ (Nat.le_succ _) (by omega)
    · exact (digAt_in s hq).and fun a p _ hp => (digAt_in s hp).and fun b p2 _ hp2 => (hex_in s m p2 hp2).and fun l p3 _ hp3 => within_ok _ (Nat.le_refl _) hp3
theorem raw_in (s : List UInt8) {q : Nat} (hq : q ≤ s.length) : Within s q (rawV s q) := (must_in s [120, 34] hq).and fun _ p _ hp => hex_in s _ p hp
theorem items_in (s : List UInt8) (k wd : Int) (R : Nat → PV Vl) (hR : ∀ q, q ≤ s.length → Within s q (R q)) : ∀ (m i q : Nat), q ≤ s.length → Within s q (itemsV s k wd R m i q)
  | 0, i, q, hq => within_no _ hq
  | m + 1, i, q, hq => by
    rw [itemsV]
    split
    · exact (must_in s [93] hq).and fun _ p _ hp => within_ok _ (Nat.le_refl _) hp
    · split
      · rename_i hc
        have := (List.getElem?_eq_some_iff.1 hc.2).1
        exact within_ok _ (Nat.le_succ _) (by omega)
      · refine Within.and ?_ fun _ p _ hp => ?_
        · split
          · exact within_ok _ (Nat.le_refl _) hq
          · exact must_in s [44] hq
        · split
          · exact within_no _ hp
          · exact (hR p hp).and fun v p2 _ hp2 => (items_in s k wd R hR m (i + 1) p2 hp2).and fun l p3 _ hp3 => within_ok _ (Nat.le_refl _) hp3
theorem kids_in (s : List UInt8) (R : Fld → Nat → PV Vl) : ∀ (l : List Fld) (b : Bool) (q : Nat), (∀ g ∈ l, ∀ q, q ≤ s.length → Within s q (R g q)) → q ≤ s.length → Within s q (kidsV s R b l q)
  | [], b, q, hR, hq => by
    rw [kidsV]
    exact (must_in s [125] hq).and fun _ p _ hp => within_ok _ (Nat.le_refl _) hp
  | g :: l, b, q, hR, hq => by
    rw [kidsV]
    refine Within.and ?_ fun _ p _ hp => ?_
    · split
      · exact within_ok _ (Nat.le_refl _) hq
      · exact must_in s [44] hq
    · exact (must_in s _ hp).and fun _ p2 _ hp2 => (hR g (.head _) p2 hp2).and fun v p3 _ hp3 => (kids_in s R l false p3 (fun g hg => hR g (.tail _ hg)) hp3).and fun vs p4 _ hp4 => within_ok _ (Nat.le_refl _) hp4
theorem choice_in (s : List UInt8) (R : Fld → Nat → PV Vl) (l : List Fld) (q : Nat) (hR : ∀ g ∈ l, ∀ q, q ≤ s.length → Within s q (R g q)) (hq : q ≤ s.length) : Within s q (choiceV s R l q) := by
  unfold choiceV
  split
  · rename_i i g hi hg
    have h1 := must_in s [40] (runP_le (f := nameB) hq)
    have h2 : Within s q (mustV s [40] (runP nameB s q)) := ⟨Nat.le_trans (runP_ge _ _ _) h1.1, h1.2⟩
    exact h2.and fun _ p _ hp => (hR g (List.mem_of_find?_eq_some hg) p hp).and fun v p2 _ hp2 => (must_in s [41] hp2).and fun _ p3 _ hp3 => within_ok _ (Nat.le_refl _) hp3
  · exact within_no _ hq
theorem read_in (s : List UInt8) : ∀ (d : Nat) (f : Fld) (q : Nat), q ≤ s.length → Within s q (readV s d f q)
  | 0, f, q, hq => within_no _ hq
  | d + 1, f, q, hq => by
    rw [readV]
    split
    · rename_i hn
      have hp : nullT <+: s.drop q := by rw [← hn.2.1]; exact List.takeWhile_prefix _
      have := hp.length_le
      rw [List.length_drop] at this
      have h4 : nullT.length = 4 := rfl
      exact within_ok _ (Nat.le_add_right _ _) (by omega)
    · split
      · split
        · exact read_in s d _ q hq
        · exact within_no _ hq
      · split
        · exact (quote_in s hq).and fun _ p _ hp => within_ok _ (Nat.le_refl _) hp
        · split
          · exact (raw_in s hq).and fun _ p _ hp => within_ok _ (Nat.le_refl _) hp
          · split
            · cases hr : rawV s q with
              | no e p => have := raw_in s hq; rw [hr] at this; exact this
              | ok t p =>
                have := raw_in s hq
                rw [hr] at this
                rw [PV.and_ok]
                split
                · exact this
                · exact within_no _ hq
            · split
              · exact (must_in s [91] hq).and fun _ p _ hp => (items_in s _ _ _ (fun q hq => by
                  split
                  · exact read_in s d _ q hq
                  · exact within_no _ hq) _ _ p hp).and fun _ p2 _ hp2 => within_ok _ (Nat.le_refl _) hp2
              · split
                · exact (must_in s [123] hq).and fun _ p _ hp => (kids_in s _ f.sub true p (fun g _ q hq => read_in s d g q hq) hp).and fun _ p2 _ hp2 => within_ok _ (Nat.le_refl _) hp2
                · split
                  · exact choice_in s _ f.sub q (fun g _ q hq => read_in s d g q hq) hq
                  · split
                    · exact within_ok _ (runP_ge _ _ _) (runP_le hq)
                    · exact within_no _ hq
/-- What a value weighs goes by its text's length. -/
theorem items_heavy {f : Fld} {T : Fld → Vl → List UInt8} : ∀ (l : List Vl) (i : Nat), (∀ (j : Nat) (x : Vl), l[j]? = some x → ∃ g, f.sub[childN f (i + j)]? = some g ∧ wV x ≤ 17 * (T g x).length) → wL l ≤ 17 * (itemsT f T i l).length
  | [], i, h => by simp [wL]
  | x :: l, i, h => by
    obtain ⟨g, hg, h1⟩ := h 0 x rfl
    rw [Nat.add_zero] at hg
    have h2 := items_heavy (T := T) l (i + 1) (fun j y hj => by rw [show i + 1 + j = i + (j + 1) by omega]; exact h (j + 1) y (by simpa using hj))
    rw [itemsT, wL, List.length_append]
    have h3 : (T g x).length ≤ (itemT f T i x).length := by
      unfold itemT
      rw [hg]
      simp only [List.length_append]
      omega
    omega
theorem show_heavy : ∀ (d : Nat) (ind : Bool) (f : Fld) (v : Vl), okT d ind f → fitD d f v = true → wV v ≤ 17 * (showV d f v).length
  | 0, ind, f, v, hok, _ => hok.elim
  | d + 1, ind, f, v, hok, hf => by
    have hwe := wV_eq v
    obtain ⟨c0, r0, e0, _⟩ := show_head (d + 1) ind f v hok hf
    have hpos : 1 ≤ (showV (d + 1) f v).length := by rw [e0]; simp
    have empty : v.tx = [] → v.ls.length = 0 → wV v ≤ 17 * (showV (d + 1) f v).length := fun h1 h2 => by
      have h3 : v.ls = [] := List.eq_nil_of_length_eq_zero h2
      rw [hwe, h1, h3]
      simp only [List.length_nil, wL]
      omega
    have hf' := hf
    rw [fitD] at hf'
    have hf' := (Bool.and_eq_true_iff.1 hf').2
    by_cases hnu : v.nu = true
    · rw [if_pos hnu] at hf'
      simp only [Bool.and_eq_true, decide_eq_true_eq] at hf'
      exact empty hf'.2.1 hf'.2.2.1
    have hnf : v.nu = false := by simpa using hnu
    rw [if_neg hnu] at hf'
    by_cases hA : f.k = 19 ∨ f.k = 20
    · obtain ⟨g, hsub⟩ := wrap_len hok.1.1 hA
      have hg : f.sub[0]? = some g := by rw [hsub]; rfl
      rw [showV, if_neg hnu, if_pos hA, hg]
      exact show_heavy d _ g v (hok.2 g (List.mem_of_getElem? hg)) (fit_wrap hnf hA hg hf)
    rw [if_neg hA] at hf'
    by_cases h18 : f.k = 18
    · obtain ⟨g, z, hg, hz, hl, _, _, hgz⟩ := fit_union hnf h18 hf
      rw [if_pos h18] at hf'
      simp only [Bool.and_eq_true, decide_eq_true_eq] at hf'
      have h1 := show_heavy d _ g z (hok.2 g (List.mem_of_getElem? hg)) hgz
      have e2 : v.ls = [z] := by
        obtain ⟨c, hc⟩ := List.length_eq_one_iff.1 hl
        rw [hc] at hz ⊢
        exact congrArg (fun u => [u]) (Option.some.inj hz)
      rw [showV, if_neg hnu, if_neg hA, if_neg (by omega), if_neg (by omega), if_pos h18, hg, hz, hwe, e2, hf'.1]
      simp only [List.length_append, List.length_cons, List.length_nil, wL]
      omega
    rw [if_neg h18] at hf'
    by_cases h15 : f.k = 15 ∨ f.k = 16 ∨ f.k = 17
    · obtain ⟨_, _, _, ftx, fall⟩ := fit_list hnf h15 hf
      have h1 := items_heavy (f := f) (T := showV d) v.ls 0 (fun j x hj => by
        obtain ⟨g, hg, hgx⟩ := fall j x hj
        exact ⟨g, by rw [Nat.zero_add]; exact hg, show_heavy d _ g x (hok.2 g (List.mem_of_getElem? hg)) hgx⟩)
      rw [showV, if_neg hnu, if_neg hA, if_neg (by omega), if_neg (by omega), if_neg h18, if_pos h15, hwe, ftx]
      simp only [List.length_append, List.length_cons, List.length_nil]
      omega
    rw [if_neg h15] at hf'
    by_cases h12 : f.k = 12 ∨ f.k = 13 ∨ f.k = 14
    · rw [if_pos h12] at hf'
      simp only [Bool.and_eq_true, decide_eq_true_eq] at hf'
      have h3 : v.ls = [] := List.eq_nil_of_length_eq_zero hf'.2.1
      have q1 : ∀ l : List UInt8, l.length ≤ (l.flatMap charT).length := fun l => by
        induction l with
        | nil => simp
        | cons c l ih => rw [List.flatMap_cons, List.length_append, List.length_cons]; have := (char_len c).1; omega
      have q2 : ∀ l : List UInt8, l.length ≤ (l.flatMap byteT).length := fun l => by
        induction l with
        | nil => simp
        | cons c l ih => rw [List.flatMap_cons, List.length_append, List.length_cons]; show _ ≤ 2 + _; omega
      have := q1 v.tx
      have := q2 v.tx
      rw [showV, if_neg hnu, if_neg hA, hwe, h3]
      by_cases k12 : f.k = 12
      · rw [if_pos k12]
        simp only [textT, List.length_append, List.length_cons, List.length_nil, wL]
        omega
      · rw [if_neg k12, if_pos (by omega)]
        simp only [bytesT, List.length_append, List.length_cons, List.length_nil, wL]
        omega
    rw [if_neg h12] at hf'
    simp only [Bool.and_eq_true, decide_eq_true_eq] at hf'
    exact empty hf'.1 hf'.2.1
/-! There and back. -/
theorem fitsP_zero {f : Fld} {v : Vl} (h : fitsP f v = 0) : mayD f = true ∧ fitD 64 f v = true ∧ wV v ≤ 4194304 := by
  unfold fitsP at h
  split at h
  · rename_i hm
    split at h
    · rename_i hg
      unfold goodD at hg
      simp only [Bool.and_eq_true, decide_eq_true_eq] at hg
      exact ⟨hm, hg.1, by omega⟩
    · cases h
  · cases h
theorem print_parse {f : Fld} {v : Vl} {p : List UInt8} (hr : rngD 64 v) (h : printP f v = (p, 0)) : fitsP f v = 0 ∧ parseVP f p = (v, 0, 0) := by
  unfold printP at h
  split at h
  · rename_i h1
    exact absurd (congrArg Prod.snd h) h1
  rename_i h1
  have h1 : fitsP f v = 0 := Decidable.not_not.1 h1
  split at h
  · have := congrArg Prod.snd h
    revert this
    exact fun h => absurd h (show (4 : Int) ≠ 0 by decide)
  rename_i h2
  have hp : showV 64 f v = p := congrArg Prod.fst h
  obtain ⟨m1, m2, _⟩ := fitsP_zero h1
  have hb := show_back p 64 false f v (may_okT m1) m2 hr 0 [] (by rw [hp]; simp) (.inl rfl)
  refine ⟨h1, ?_⟩
  unfold parseVP
  rw [if_neg (by rw [m1]; decide), if_neg (by rw [← hp]; exact h2), hb]
  simp only
  rw [if_neg (by rw [hp]; omega)]
theorem print_err {f : Fld} {v : Vl} : (printP f v).2 = 0 ∨ ((printP f v).2 = 4 ∧ fitsP f v = 0) ∨ ((printP f v).2 ≠ 0 ∧ (printP f v).2 ≠ 4 ∧ (printP f v).2 = fitsP f v) := by
  unfold printP
  split
  · rename_i h
    refine .inr (.inr ⟨h, ?_, rfl⟩)
    show fitsP f v ≠ 4
    unfold fitsP
    split
    · split <;> decide
    · decide
  · rename_i h
    split
    · exact .inr (.inl ⟨rfl, Decidable.not_not.1 h⟩)
    · exact .inl rfl
theorem parse_print {f : Fld} {s : List UInt8} {x : Vl} {a : Nat} (h : parseVP f s = (x, 0, a)) : printP f x = (s, 0) ∧ fitsP f x = 0 := by
  unfold parseVP at h
  split at h
  · exact absurd (congrArg (fun t => t.2.1) h) (show (5 : Int) ≠ 0 by decide)
  rename_i hm
  split at h
  · exact absurd (congrArg (fun t => t.2.1) h) (show (4 : Int) ≠ 0 by decide)
  rename_i hs
  have hm : mayD f = true := by simpa using hm
  split at h
  · rename_i e q hr
    have he : e = 0 := congrArg (fun t => t.2.1) h
    have h5 := (read_in s 64 f 0 (Nat.zero_le _)).2.2
    rw [hr] at h5
    exact absurd he h5
  · rename_i v q hr
    split at h
    · exact absurd (congrArg (fun t => t.2.1) h) (show (8 : Int) ≠ 0 by decide)
    rename_i hq
    have hx : v = x := congrArg (fun t => t.1) h
    subst hx
    have hok := may_okT hm
    obtain ⟨w1, w2, _⟩ := read_wrote s 64 false f hok 0 v q hr
    have hd : s.drop q = [] := List.drop_eq_nil_iff.2 (by omega)
    rw [hd, List.append_nil, List.drop_zero] at w1
    have hh := show_heavy 64 false f v hok w2
    have hfit : fitsP f v = 0 := by
      unfold fitsP goodD
      rw [if_pos hm, w2, if_pos]
      rw [Bool.true_and, decide_eq_true_eq]
      rw [← w1] at hh
      omega
    refine ⟨?_, hfit⟩
    unfold printP
    rw [if_neg (by rw [hfit]; decide), ← w1, if_neg hs]
theorem parse_place {f : Fld} {s : List UInt8} : (parseVP f s).2.2 ≤ s.length := by
  unfold parseVP
  split
  · exact Nat.zero_le _
  split
  · exact Nat.zero_le _
  have h := read_in s 64 f 0 (Nat.zero_le _)
  split
  · rename_i e q hr
    rw [hr] at h
    exact h.2.1
  · rename_i v q hr
    rw [hr] at h
    split
    · exact h.2.1
    · exact Nat.zero_le _
end Go.Proofs.YtilejcofleeeiaaGreatDoor
