/- YtilejcofleeeiaaGreatDoor: plain: letters, escapes, digits of base sixteen: what is written is read, what is read was written. -/
import Derived.Test.YtilejcofleeeiaaGreatDoorW212
namespace Go.Proofs.YtilejcofleeeiaaGreatDoor
open Go Go.K
set_option maxRecDepth 100000
set_option linter.unusedVariables false
set_option linter.unusedSimpArgs false
/-! Letters. -/
theorem check_utf8 (l : List UInt8) (hl : l ≠ []) (h0 : 128 ≤ (l.getD 0 0).toNat) :
    Lib.checkN l.length (l.getD 1 0).toNat (l.getD 2 0).toNat (l.getD 3 0).toNat (Lib.firstT (l.getD 0 0).toNat % 8) (Lib.accLo (Lib.firstT (l.getD 0 0).toNat / 16)) (Lib.accHi (Lib.firstT (l.getD 0 0).toNat / 16)) = if utf8P l = 0 then none else some (utf8P l) := by
  have hlen : 0 < l.length := List.length_pos_iff.2 hl
  obtain ⟨t1, t2⟩ := lead_tab ⟨(l.getD 0 0).toNat, (l.getD 0 0).toNat_lt⟩ (by simp only; omega)
  simp only at t1 t2
  by_cases hr : 194 ≤ (l.getD 0 0).toNat ∧ (l.getD 0 0).toNat < 245
  · obtain ⟨q1, q2, q3⟩ := t1 hr
    rw [q1, q2, q3]
    have hs : sizeU (l.getD 0 0).toNat = 2 ∨ sizeU (l.getD 0 0).toNat = 3 ∨ sizeU (l.getD 0 0).toNat = 4 := by unfold sizeU; (repeat' split) <;> omega
    have hu : utf8P l = if l.length < sizeU (l.getD 0 0).toNat ∨ (l.getD 1 0).toNat < lowU (l.getD 0 0).toNat ∨ highU (l.getD 0 0).toNat < (l.getD 1 0).toNat then 0 else if ∃ i, i < sizeU (l.getD 0 0).toNat ∧ 2 ≤ i ∧ ((l.getD i 0).toNat < 128 ∨ 191 < (l.getD i 0).toNat) then 0 else sizeU (l.getD 0 0).toNat := by
      unfold utf8P; rw [if_neg hl, if_neg (by omega), if_neg (show ¬ sizeU (l.getD 0 0).toNat = 0 by omega)]
    clear t1 t2 q1 q2 q3
    generalize lowU (l.getD 0 0).toNat = lo at hu ⊢
    generalize highU (l.getD 0 0).toNat = hi at hu ⊢
    generalize sizeU (l.getD 0 0).toNat = sz at hu hs ⊢
    unfold Lib.checkN
    by_cases c1 : l.length < sz ∨ (l.getD 1 0).toNat < lo ∨ hi < (l.getD 1 0).toNat
    · rw [if_pos c1] at hu
      rw [hu, if_pos rfl]
      rcases hs with rfl | rfl | rfl
      · rw [if_pos rfl, if_pos (by omega)]
      · rw [if_neg (by omega), if_pos rfl, if_pos (by omega)]
      · rw [if_neg (by omega), if_neg (by omega), if_pos rfl, if_pos (by omega)]
    · rw [if_neg c1] at hu
      by_cases c2 : ∃ i, i < sz ∧ 2 ≤ i ∧ ((l.getD i 0).toNat < 128 ∨ 191 < (l.getD i 0).toNat)
      · rw [if_pos c2] at hu
        rw [hu, if_pos rfl]
        obtain ⟨i, i1, i2, i3⟩ := c2
        rcases hs with rfl | rfl | rfl
        · omega
        · obtain rfl : i = 2 := by omega
          rw [if_neg (by omega), if_pos rfl, if_pos (by omega)]
        · rw [if_neg (by omega), if_neg (by omega), if_pos rfl, if_pos (by rcases (show i = 2 ∨ i = 3 by omega) with rfl | rfl <;> omega)]
      · rw [if_neg c2] at hu
        have c3 : ∀ i, i < sz → 2 ≤ i → ¬ ((l.getD i 0).toNat < 128 ∨ 191 < (l.getD i 0).toNat) := fun i i1 i2 i3 => c2 ⟨i, i1, i2, i3⟩
        rw [hu, if_neg (show ¬ sz = 0 by omega)]
        rcases hs with rfl | rfl | rfl
        · rw [if_pos rfl, if_neg (by omega)]
        · have := c3 2 (by omega) (by omega)
          rw [if_neg (by omega), if_pos rfl, if_neg (by omega)]
        · have := c3 2 (by omega) (by omega)
          have := c3 3 (by omega) (by omega)
          rw [if_neg (by omega), if_neg (by omega), if_pos rfl, if_neg (by omega)]
  · obtain ⟨q1, q2, q3⟩ := t2 hr
    have hu : utf8P l = 0 := by
      unfold utf8P
      rw [if_neg hl, if_neg (by omega), if_pos (by unfold sizeU; (repeat' split) <;> omega)]
    rw [hu, if_pos rfl]
    unfold Lib.checkN
    rw [if_neg q1, if_neg q2, if_neg q3]
theorem utf8_low {l : List UInt8} (hl : l ≠ []) (h0 : (l.getD 0 0).toNat < 128) : utf8P l = 1 := by unfold utf8P; rw [if_neg hl, if_pos h0]
/-- The library's decoder and the reference's letters are of one mind. -/
theorem decode_utf8 (l : List UInt8) (hl : l ≠ []) : (utf8P l = 0 → Lib.decodeL l = (65533, 1)) ∧ (utf8P l ≠ 0 → (Lib.decodeL l).2 = utf8P l ∧ ¬ ((Lib.decodeL l).1 = 65533 ∧ (Lib.decodeL l).2 = 1)) := by
  have hlen : 0 < l.length := List.length_pos_iff.2 hl
  by_cases h0 : (l.getD 0 0).toNat < 128
  · have hu := utf8_low hl h0
    obtain ⟨b, t, rfl⟩ := List.exists_cons_of_ne_nil hl
    have hb : b.toNat < 128 := by simpa using h0
    rw [hu, Lib.decodeL_ascii b t hb]
    exact ⟨fun h => by omega, fun _ => ⟨rfl, fun h => by have := h.1; simp only at this; omega⟩⟩
  · have hc := check_utf8 l hl (by omega)
    rw [Lib.decodeL_N]
    rcases Lib.check_decode l.length (l.getD 0 0).toNat (l.getD 1 0).toNat (l.getD 2 0).toNat (l.getD 3 0).toNat hlen (by omega) (l.getD 0 0).toNat_lt (l.getD 1 0).toNat_lt (l.getD 2 0).toNat_lt (l.getD 3 0).toNat_lt with ⟨h1, h2⟩ | ⟨k, hk, h1, h2⟩
    · rw [hc] at h1
      split at h1
      · rename_i hu
        exact ⟨fun _ => h2, fun h => absurd hu h⟩
      · cases h1
    · rw [hc] at h1
      split at h1
      · cases h1
      · rename_i hu
        have e : utf8P l = k := Option.some.inj h1
        exact ⟨fun h => absurd h hu, fun _ => ⟨by rw [h2, e], fun h => by omega⟩⟩
theorem utf8_le (l : List UInt8) (hl : l ≠ []) : utf8P l ≤ l.length := (valid_step l hl).2
theorem utf8_nil : utf8P [] = 0 := by unfold utf8P; rw [if_pos rfl]
/-- A letter is told by its own bytes; but for one byte below 128 they are all above. -/
theorem utf8_head {l : List UInt8} (h : utf8P l ≠ 0) (x : List UInt8) : utf8P (l.take (utf8P l) ++ x) = utf8P l ∧ (utf8P l = 1 ∧ (l.getD 0 0).toNat < 128 ∨ ∀ c ∈ l.take (utf8P l), 128 ≤ c.toNat) := by
  have hl : l ≠ [] := fun e => by rw [e] at h; exact h utf8_nil
  have hle := utf8_le l hl
  have hg : ∀ i, i < utf8P l → (l.take (utf8P l) ++ x).getD i 0 = l.getD i 0 := fun i hi => by
    simp only [List.getD_eq_getElem?_getD]
    rw [List.getElem?_append_left (by rw [List.length_take]; omega), List.getElem?_take_of_lt hi]
  have hlt : (l.take (utf8P l)).length = utf8P l := by rw [List.length_take]; omega
  have hne : l.take (utf8P l) ++ x ≠ [] := fun e => by
    rw [(List.append_eq_nil_iff.1 e).1] at hlt
    exact h hlt.symm
  by_cases h0 : (l.getD 0 0).toNat < 128
  · have hu := utf8_low hl h0
    refine ⟨?_, .inl ⟨hu, h0⟩⟩
    rw [utf8_low hne (by rw [hg 0 (by omega)]; exact h0), hu]
  · have hs : sizeU (l.getD 0 0).toNat ≠ 0 := fun e => h (by unfold utf8P; rw [if_neg hl, if_neg h0, if_pos e])
    have key : ∀ m : List UInt8, m ≠ [] → m.getD 0 0 = l.getD 0 0 → utf8P m = if m.length < sizeU (l.getD 0 0).toNat ∨ (m.getD 1 0).toNat < lowU (l.getD 0 0).toNat ∨ highU (l.getD 0 0).toNat < (m.getD 1 0).toNat then 0 else if ∃ i, i < sizeU (l.getD 0 0).toNat ∧ 2 ≤ i ∧ ((m.getD i 0).toNat < 128 ∨ 191 < (m.getD i 0).toNat) then 0 else sizeU (l.getD 0 0).toNat := fun m hm e => by
      unfold utf8P
      rw [if_neg hm, e, if_neg h0, if_neg hs]
    have k1 := key l hl rfl
    by_cases c1 : l.length < sizeU (l.getD 0 0).toNat ∨ (l.getD 1 0).toNat < lowU (l.getD 0 0).toNat ∨ highU (l.getD 0 0).toNat < (l.getD 1 0).toNat
    · rw [if_pos c1] at k1; exact absurd k1 h
    rw [if_neg c1] at k1
    by_cases c2 : ∃ i, i < sizeU (l.getD 0 0).toNat ∧ 2 ≤ i ∧ ((l.getD i 0).toNat < 128 ∨ 191 < (l.getD i 0).toNat)
    · rw [if_pos c2] at k1; exact absurd k1 h
    rw [if_neg c2] at k1
    have hlo : 128 ≤ lowU (l.getD 0 0).toNat := by unfold lowU; (repeat' split) <;> omega
    have hsz : 2 ≤ sizeU (l.getD 0 0).toNat := by
      unfold sizeU at hs ⊢
      rw [if_neg h0] at hs ⊢
      revert hs
      (repeat' split) <;> omega
    have k2 := key (l.take (utf8P l) ++ x) hne (hg 0 (by omega))
    refine ⟨?_, .inr fun c hc => ?_⟩
    · rw [k2, if_neg, if_neg, ← k1]
      · rintro ⟨i, i1, i2, i3⟩
        rw [hg i (by omega)] at i3
        exact c2 ⟨i, i1, i2, i3⟩
      · rw [hg 1 (by omega)]
        rintro (i1 | i1)
        · rw [List.length_append, List.length_take] at i1; omega
        · exact c1 (.inr i1)
    · obtain ⟨i, hi⟩ := List.mem_iff_getElem?.1 hc
      have hil := (List.getElem?_eq_some_iff.1 hi).1
      rw [List.length_take] at hil
      rw [List.getElem?_take_of_lt (by omega)] at hi
      have e : c = l.getD i 0 := by rw [List.getD_eq_getElem?_getD, hi]; rfl
      rw [e]
      match i with
      | 0 => omega
      | 1 => omega
      | i + 2 =>
        rcases Nat.lt_or_ge (l.getD (i + 2) 0).toNat 128 with h9 | h9
        · exact absurd ⟨i + 2, by omega, by omega, .inl h9⟩ c2
        · exact h9
theorem esc_high {c : UInt8} (h : 128 ≤ c.toNat) : escP c = [] := by
  unfold escP
  rw [if_neg (by omega), if_neg (by omega), if_neg (by omega), if_neg (by omega), if_neg (by omega), if_neg (by omega)]
theorem char_plain {c : UInt8} (h : escP c = []) : charT c = [c] := by unfold charT; rw [if_pos h]
theorem flat_plain : ∀ (l : List UInt8), (∀ c ∈ l, escP c = []) → l.flatMap charT = l
  | [], _ => rfl
  | c :: l, h => by rw [List.flatMap_cons, char_plain (h c (.head _)), flat_plain l (fun x hx => h x (.tail _ hx))]; rfl
/-! Escapes. -/
theorem byte_low (n : Nat) (h : n < 128) : (UInt8.ofNat n).toNat = n := by rw [UInt8.toNat_ofNat']; omega
theorem escs_apart : ∀ a : Fin 128, ∀ b : Fin 128, escP (UInt8.ofNat a.val) ≠ [] → (escP (UInt8.ofNat a.val)).isPrefixOf (escP (UInt8.ofNat b.val)) = true → a = b := by decide +kernel
theorem esc_low {c : UInt8} (h : escP c ≠ []) : c.toNat < 128 := by
  rcases Nat.lt_or_ge c.toNat 128 with h1 | h1
  · exact h1
  · exact absurd (esc_high h1) h
theorem esc_first {c : UInt8} (h : escP c ≠ []) : (escP c).head? = some 92 := by
  unfold escP at h ⊢
  (repeat' split) <;> first | rfl | (rename_i q1 q2 q3 q4 q5 q6; rw [if_neg q1, if_neg q2, if_neg q3, if_neg q4, if_neg q5, if_neg q6] at h; exact absurd rfl h)
theorem pre_pre {a b x : List UInt8} (h1 : a <+: b ++ x) (h2 : a.length ≤ b.length) : a <+: b := by
  obtain ⟨t, ht⟩ := h1
  refine List.prefix_iff_eq_take.2 ?_
  have := congrArg (List.take a.length) ht
  rw [List.take_left, List.take_append_of_le_length h2] at this
  exact this
theorem esc_two {c : UInt8} (h : escP c ≠ []) : (escP c).length = 2 ∨ (escP c).length = 4 := by
  unfold escP at h ⊢
  (repeat' split) <;> first | exact .inl rfl | exact .inr rfl | (rename_i q1 q2 q3 q4 q5 q6; rw [if_neg q1, if_neg q2, if_neg q3, if_neg q4, if_neg q5, if_neg q6] at h; exact absurd rfl h)
/-- Of two escapes that begin one text each is the other. -/
theorem esc_same {a b : UInt8} {l : List UInt8} (ha : escP a ≠ []) (hb : escP b ≠ []) (h1 : escP a <+: l) (h2 : escP b <+: l) : a = b := by
  have key : ∀ a b : UInt8, escP a ≠ [] → escP b ≠ [] → escP a <+: escP b → a = b := fun a b ha hb h => by
    have la := esc_low ha
    have lb := esc_low hb
    have ea : UInt8.ofNat a.toNat = a := UInt8.ofNat_toNat
    have eb : UInt8.ofNat b.toNat = b := UInt8.ofNat_toNat
    have := escs_apart ⟨a.toNat, la⟩ ⟨b.toNat, lb⟩ (by rw [ea]; exact ha) (by rw [ea, eb]; exact List.isPrefixOf_iff_prefix.2 h)
    have h9 : a.toNat = b.toNat := Fin.mk.inj this
    exact UInt8.toNat_inj.1 h9
  rcases Nat.le_total (escP a).length (escP b).length with h | h
  · exact key a b ha hb (List.prefix_of_prefix_length_le h1 h2 h)
  · exact (key b a hb ha (List.prefix_of_prefix_length_le h2 h1 h)).symm
theorem escR_some {l : List UInt8} {c : UInt8} {n : Nat} (h : escR l = some (c, n)) : escP c ≠ [] ∧ escP c <+: l ∧ n = (escP c).length ∧ c.toNat < 128 := by
  unfold escR at h
  obtain ⟨i, h1, h2⟩ := Option.map_eq_some_iff.1 h
  have h3 := List.find?_some h1
  have h4 := List.mem_range.1 (List.mem_of_find?_eq_some h1)
  simp only [Bool.and_eq_true, Bool.not_eq_true', List.isEmpty_eq_false_iff, List.isPrefixOf_iff_prefix] at h3
  cases h2
  exact ⟨h3.1, h3.2, rfl, by rw [byte_low i h4]; exact h4⟩
theorem escR_yes {l : List UInt8} {c : UInt8} (h : escP c ≠ []) (hp : escP c <+: l) : escR l = some (c, (escP c).length) := by
  cases he : escR l with
  | none =>
    exfalso
    unfold escR at he
    rw [Option.map_eq_none_iff, List.find?_eq_none] at he
    refine he c.toNat (List.mem_range.2 (esc_low h)) ?_
    simp only [Bool.and_eq_true, Bool.not_eq_true', List.isEmpty_eq_false_iff, List.isPrefixOf_iff_prefix]
    rw [UInt8.ofNat_toNat]
    exact ⟨h, hp⟩
  | some p =>
    obtain ⟨x, n⟩ := p
    obtain ⟨q1, q2, rfl, _⟩ := escR_some he
    rw [esc_same q1 h q2 hp]
/-! Digits of base sixteen. -/
theorem digV_some {c : UInt8} {n : Nat} (h : digV c = some n) : n < 16 ∧ hexC n = c := by
  unfold digV at h
  split at h
  · cases h
    refine ⟨by omega, UInt8.toNat_inj.1 ?_⟩
    rw [hexC_nat (by omega), if_pos (by omega)]
    omega
  · split at h
    · cases h
      refine ⟨by omega, UInt8.toNat_inj.1 ?_⟩
      rw [hexC_nat (by omega), if_neg (by omega)]
      omega
    · cases h
theorem digV_hex {n : Nat} (h : n < 16) : digV (hexC n) = some n := by
  have := hexC_nat h
  unfold digV
  by_cases h9 : n < 10
  · rw [if_pos h9] at this
    rw [if_pos (by omega)]
    congr 1
    omega
  · rw [if_neg h9] at this
    rw [if_neg (by omega), if_pos (by omega)]
    congr 1
    omega
/-! Bytes that must stand. -/
theorem mustV_some {s t : List UInt8} {q r : Nat} {u : Unit} (h : mustV s t q = .ok u r) : s.drop q = t ++ s.drop r ∧ r = q + t.length := by
  unfold mustV at h
  split at h
  · rename_i h1
    cases h
    refine ⟨?_, rfl⟩
    obtain ⟨x, hx⟩ := List.isPrefixOf_iff_prefix.1 h1
    rw [← List.drop_drop, ← hx, List.drop_left]
  · cases h
theorem mustV_yes {s t x : List UInt8} {q : Nat} (h : s.drop q = t ++ x) : mustV s t q = .ok () (q + t.length) := by
  unfold mustV
  rw [if_pos (List.isPrefixOf_iff_prefix.2 (by rw [h]; exact List.prefix_append _ _))]
theorem drop_to {s t x : List UInt8} {q : Nat} (h : s.drop q = t ++ x) : s.drop (q + t.length) = x := by
  rw [← List.drop_drop, h, List.drop_left]
theorem drop_cons {s x : List UInt8} {q : Nat} {c : UInt8} (h : s.drop q = c :: x) : s[q]? = some c ∧ s.drop (q + 1) = x := by
  refine ⟨?_, ?_⟩
  · have := congrArg (fun l => l[0]?) h
    simpa [List.getElem?_drop] using this
  · have := congrArg (List.drop 1) h
    rw [List.drop_drop] at this
    simpa using this
theorem cons_drop {s : List UInt8} {q : Nat} {c : UInt8} (h : s[q]? = some c) : s.drop q = c :: s.drop (q + 1) := by
  obtain ⟨h1, rfl⟩ := List.getElem?_eq_some_iff.1 h
  exact List.drop_eq_getElem_cons h1
theorem drop_of {l x : List UInt8} {n : Nat} (h : n ≤ l.length) : (l.take n ++ x).drop n = x := by
  have := List.drop_left (l₁ := l.take n) (l₂ := x)
  rwa [List.length_take, Nat.min_eq_left h] at this
theorem take_of {l x : List UInt8} {n : Nat} (h : n ≤ l.length) : (l.take n ++ x).take n = l.take n := by
  have := List.take_left (l₁ := l.take n) (l₂ := x)
  rwa [List.length_take, Nat.min_eq_left h] at this
/-! Texts. -/
theorem restV_some (s : List UInt8) : ∀ (m q : Nat) (l : List UInt8) (r : Nat), restV s m q = .ok l r → s.drop q = l.flatMap charT ++ 34 :: s.drop r ∧ Lib.validD l = true
  | 0, q, l, r, h => by cases h
  | m + 1, q, l, r, h => by
    rw [restV] at h
    cases hc : s[q]? with
    | none => rw [hc] at h; cases h
    | some c =>
      rw [hc] at h
      simp only at h
      have hd := cons_drop hc
      split at h
      · rename_i h34
        cases h
        rw [hd]
        exact ⟨by rw [show c = 34 from UInt8.toNat_inj.1 h34]; rfl, rfl⟩
      · split at h
        · cases he : escR (s.drop q) with
          | none => rw [he] at h; cases h
          | some p =>
            obtain ⟨x, n⟩ := p
            rw [he] at h
            simp only at h
            obtain ⟨l', r', h1, h2⟩ := PV.and_eq_ok h
            cases h2
            obtain ⟨q1, q2, q3, hlow⟩ := escR_some he
            have ih := restV_some s m _ _ _ h1
            refine ⟨?_, by rw [Lib.validD_cons _ _ hlow]; exact ih.2⟩
            obtain ⟨t, ht⟩ := q2
            have hdr : s.drop (q + n) = t := by rw [q3]; exact drop_to ht.symm
            rw [List.flatMap_cons, show charT x = escP x by unfold charT; rw [if_neg q1], ← ht, List.append_assoc, ← ih.1, hdr]
        · split at h
          · cases h
          · rename_i hx
            have hx1 : escP c = [] := Decidable.not_not.1 fun e => hx (.inl e)
            have hx2 : utf8P (s.drop q) ≠ 0 := fun e => hx (.inr e)
            obtain ⟨l', r', h1, h2⟩ := PV.and_eq_ok h
            cases h2
            have ih := restV_some s m _ _ _ h1
            obtain ⟨u1, u2⟩ := utf8_head hx2 l'
            have hne : s.drop q ≠ [] := fun e => by rw [e] at hx2; exact hx2 utf8_nil
            have hle := utf8_le _ hne
            have hpl : ∀ y ∈ (s.drop q).take (utf8P (s.drop q)), escP y = [] := fun y hy => by
              rcases u2 with ⟨u2, u3⟩ | u2
              · rw [u2, hd] at hy
                simp only [List.take_succ_cons, List.take_zero, List.mem_singleton] at hy
                rw [hy]; exact hx1
              · exact esc_high (u2 y hy)
            refine ⟨?_, ?_⟩
            · rw [List.flatMap_append, flat_plain _ hpl, List.append_assoc, ← ih.1, ← List.drop_drop, List.take_append_drop]
            · have hlt : ((s.drop q).take (utf8P (s.drop q))).length = utf8P (s.drop q) := by rw [List.length_take]; omega
              have hn2 : (s.drop q).take (utf8P (s.drop q)) ++ l' ≠ [] := fun e => by
                rw [(List.append_eq_nil_iff.1 e).1] at hlt
                exact hx2 hlt.symm
              rw [(valid_step _ hn2).1, u1, if_neg hx2, drop_of (by omega)]
              exact ih.2
theorem restV_yes (s : List UInt8) : ∀ (n : Nat) (l : List UInt8) (m q : Nat) (x : List UInt8), l.length ≤ n → n < m → s.drop q = l.flatMap charT ++ 34 :: x → Lib.validD l = true → restV s m q = .ok l (q + (l.flatMap charT).length + 1)
  | n, [], 0, q, x, h1, h2, h3, h4 => by omega
  | n, [], m + 1, q, x, h1, h2, h3, h4 => by
    obtain ⟨hc, _⟩ := drop_cons (show s.drop q = 34 :: x from h3)
    rw [restV, hc]
    rfl
  | 0, c :: l, m, q, x, h1, h2, h3, h4 => by simp at h1
  | n + 1, c :: l, 0, q, x, h1, h2, h3, h4 => by omega
  | n + 1, c :: l, m + 1, q, x, h1, h2, h3, h4 => by
    by_cases he : escP c = []
    · have hu : utf8P (c :: l) ≠ 0 := fun e => by
        rw [(valid_step (c :: l) (by simp)).1, if_pos e] at h4
        cases h4
      obtain ⟨k, hk⟩ : ∃ k, utf8P (c :: l) = k + 1 := ⟨utf8P (c :: l) - 1, by omega⟩
      have hle := utf8_le (c :: l) (by simp)
      obtain ⟨_, u2⟩ := utf8_head hu []
      have hpl : ∀ y ∈ (c :: l).take (k + 1), escP y = [] := fun y hy => by
        rcases u2 with ⟨u2, u3⟩ | u2
        · rw [← hk, u2] at hy
          simp only [List.take_succ_cons, List.take_zero, List.mem_singleton] at hy
          rw [hy]; exact he
        · exact esc_high (u2 y (by rw [hk]; exact hy))
      have hsp : (c :: l).flatMap charT = (c :: l).take (k + 1) ++ ((c :: l).drop (k + 1)).flatMap charT := by
        conv => lhs; rw [← List.take_append_drop (k + 1) (c :: l)]
        rw [List.flatMap_append, flat_plain _ hpl]
      have hd : s.drop q = (c :: l).take (k + 1) ++ (((c :: l).drop (k + 1)).flatMap charT ++ 34 :: x) := by rw [h3, hsp, List.append_assoc]
      have hu2 : utf8P (s.drop q) = k + 1 := by
        have := (utf8_head hu (((c :: l).drop (k + 1)).flatMap charT ++ 34 :: x)).1
        rw [hk] at this
        rw [hd, this]
      have hlt : ((c :: l).take (k + 1)).length = k + 1 := by rw [List.length_take]; omega
      have hdr := drop_to hd
      rw [hlt] at hdr
      have hv : Lib.validD ((c :: l).drop (k + 1)) = true := by
        have := (valid_step (c :: l) (by simp)).1
        rw [if_neg hu, hk, h4] at this
        exact this.symm
      have ih := restV_yes s n ((c :: l).drop (k + 1)) m (q + (k + 1)) x (by rw [List.length_drop]; simp at h1 ⊢; omega) (by omega) hdr hv
      have hc : s[q]? = some c := by
        rw [List.take_succ_cons] at hd
        exact (drop_cons hd).1
      rw [restV, hc]
      simp only
      have e34 : ¬ c.toNat = 34 := fun e => by unfold escP at he; rw [e] at he; simp at he
      have e92 : ¬ c.toNat = 92 := fun e => by unfold escP at he; rw [e] at he; simp at he
      rw [if_neg e34, if_neg e92, if_neg (by rw [hu2]; rintro (h | h); exact h he; omega), hu2, ih]
      rw [PV.and_ok, hsp, List.length_append, hlt]
      congr 1
      · rw [hd, take_of (by omega)]
        exact List.take_append_drop _ _
      · omega
    · have hch : charT c = escP c := by unfold charT; rw [if_neg he]
      have hd : s.drop q = escP c ++ (l.flatMap charT ++ 34 :: x) := by rw [h3, List.flatMap_cons, hch, List.append_assoc]
      have h92 := esc_first he
      obtain ⟨y, t, ht⟩ := List.exists_cons_of_ne_nil he
      rw [ht, List.head?_cons] at h92
      have hy : y = 92 := Option.some.inj h92
      subst hy
      have hc : s[q]? = some 92 := by rw [ht] at hd; exact (drop_cons hd).1
      have hv : Lib.validD l = true := by rw [Lib.validD_cons _ _ (esc_low he)] at h4; exact h4
      have ih := restV_yes s n l m (q + (escP c).length) x (by simpa using h1) (by omega) (drop_to hd) hv
      rw [restV, hc]
      simp only
      rw [if_neg (by decide), if_pos (by decide), escR_yes he (by rw [hd]; exact List.prefix_append _ _)]
      simp only
      rw [ih, PV.and_ok, List.flatMap_cons, hch, List.length_append]
      congr 1
      omega
/-! Bytes. -/
theorem hexV_some (s : List UInt8) : ∀ (m q : Nat) (l : List UInt8) (r : Nat), hexV s m q = .ok l r → s.drop q = l.flatMap byteT ++ 34 :: s.drop r
  | 0, q, l, r, h => by cases h
  | m + 1, q, l, r, h => by
    rw [hexV] at h
    split at h
    · rename_i hc
      cases h
      exact cons_drop hc
    · have dg : ∀ {q a r}, digAt s q = .ok a r → s.drop q = hexC a :: s.drop r ∧ a < 16 := fun {q a r} h => by
        unfold digAt at h
        split at h
        · cases h
        · rename_i d hd
          cases h
          obtain ⟨c, hc, hv⟩ := Option.bind_eq_some_iff.1 hd
          obtain ⟨v1, v2⟩ := digV_some hv
          exact ⟨by rw [v2]; exact cons_drop hc, v1⟩
      obtain ⟨a, r1, h1, h⟩ := PV.and_eq_ok h
      obtain ⟨b, r2, h2, h⟩ := PV.and_eq_ok h
      obtain ⟨t, r3, h3, h⟩ := PV.and_eq_ok h
      cases h
      obtain ⟨a1, a2⟩ := dg h1
      obtain ⟨b1, b2⟩ := dg h2
      have ih := hexV_some s m _ _ _ h3
      have hb : (UInt8.ofNat (16 * a + b)).toNat = 16 * a + b := by rw [UInt8.toNat_ofNat']; omega
      rw [List.flatMap_cons, a1, b1, ih]
      unfold byteT
      rw [hb, show (16 * a + b) / 16 = a by omega, show (16 * a + b) % 16 = b by omega]
      rfl
theorem hexV_yes (s : List UInt8) : ∀ (l : List UInt8) (m q : Nat) (x : List UInt8), l.length < m → s.drop q = l.flatMap byteT ++ 34 :: x → hexV s m q = .ok l (q + (l.flatMap byteT).length + 1)
  | [], 0, q, x, h1, h3 => by omega
  | [], m + 1, q, x, h1, h3 => by
    rw [hexV, if_pos (drop_cons (show s.drop q = 34 :: x from h3)).1]
    rfl
  | c :: l, 0, q, x, h1, h3 => by omega
  | c :: l, m + 1, q, x, h1, h3 => by
    have hd : s.drop q = hexC (c.toNat / 16) :: hexC (c.toNat % 16) :: (l.flatMap byteT ++ 34 :: x) := h3
    obtain ⟨c1, d1⟩ := drop_cons hd
    obtain ⟨c2, d2⟩ := drop_cons d1
    have hlt := c.toNat_lt
    have ih := hexV_yes s l m (q + 1 + 1) x (by simpa using h1) d2
    have e1 : digAt s q = .ok (c.toNat / 16) (q + 1) := by unfold digAt; rw [c1, Option.bind_some, digV_hex (by omega)]
    have e2 : digAt s (q + 1) = .ok (c.toNat % 16) (q + 1 + 1) := by unfold digAt; rw [c2, Option.bind_some, digV_hex (by omega)]
    rw [hexV, if_neg, e1, PV.and_ok, e2, PV.and_ok, ih, PV.and_ok]
    · congr 1
      · congr 1
        rw [show 16 * (c.toNat / 16) + c.toNat % 16 = c.toNat by omega]
        exact UInt8.ofNat_toNat
      · rw [List.flatMap_cons, List.length_append]
        show _ = q + (2 + _) + 1
        omega
    · rw [c1]
      intro e
      have := hexC_nat (n := c.toNat / 16) (by omega)
      rw [Option.some.inj e] at this
      have h34 : (34 : UInt8).toNat = 34 := rfl
      rw [h34] at this
      split at this <;> omega
end Go.Proofs.YtilejcofleeeiaaGreatDoor
