/- YtdmdgkpjjpijdaaDoor: fields as cells: what is copied from list to list. -/
import Derived.Test.YtdmdgkpjjpijdaaDoorKs
namespace Go.Proofs.YtdmdgkpjjpijdaaDoor
open Go Go.K
set_option linter.unusedVariables false
set_option linter.unusedSimpArgs false
/-- The cells of a list of fields, whose children lie in w below lo. -/
def FldsC (w : World) (lo : Nat) : List Fld → List Value → Prop
  | [], cs => cs = []
  | f :: l, cs => ∃ a c r, cs = f.cells a c ++ r ∧ f.sub.length ≤ c ∧ f.nm.length ≤ 9223372036854775807 ∧ c ≤ 9223372036854775807 ∧ Rd w lo a f.sub ∧ FldsC w lo l r
theorem cells7 (f : Fld) (a : Option Addr) (c : Nat) : (f.cells a c).length = 7 := rfl
theorem FldsC.len {w : World} {lo : Nat} : ∀ {l : List Fld} {cs : List Value}, FldsC w lo l cs → cs.length = l.length * 7
  | [], _, h => by cases h; rfl
  | f :: l, cs, ⟨a, c, r, h1, _, _, _, _, h2⟩ => by
    have := FldsC.len h2
    rw [h1, List.length_append, cells7, this, List.length_cons]; omega
theorem FldsC.one {w : World} {lo : Nat} : ∀ {l : List Fld} {cs : List Value}, FldsC w lo l cs → ∀ u ∈ cs, u.oneCell' = true
  | [], _, h => by cases h; intro u hu; cases hu
  | f :: l, cs, ⟨a, c, r, h1, _, _, _, _, h2⟩ => by
    intro u hu
    rw [h1] at hu
    rcases List.mem_append.1 hu with hu | hu
    · simp only [Fld.cells, List.mem_cons, List.mem_nil_iff, or_false] at hu
      rcases hu with rfl | rfl | rfl | rfl | rfl | rfl | rfl <;> rfl
    · exact FldsC.one h2 u hu
theorem FldsC.mono {w w' : World} {lo : Nat} (hw : ∀ k, k < lo → w'.heap[k]? = w.heap[k]?) : ∀ {l : List Fld} {cs : List Value}, FldsC w lo l cs → FldsC w' lo l cs
  | [], _, h => h
  | f :: l, cs, ⟨a, c, r, h1, h2, h3, h4, h5, h6⟩ => ⟨a, c, r, h1, h2, h3, h4, h5.mono hw, h6.mono hw⟩
theorem FldsC.sy {w w' : World} {lo : Nat} {l : List Fld} {cs : List Value} {M : Own} (h : FldsC w lo l cs) (hlo : lo ≤ w.heap.size) (hs : Sy w M w') (hM : ∀ p ∈ M, lo ≤ p.1) : FldsC w' lo l cs :=
  h.mono fun k hk => hs.rest k (Nat.lt_of_lt_of_le hk hlo) (fun hm => by obtain ⟨p, hp, e⟩ := List.mem_map.1 hm; have := hM p hp; omega)
theorem FldsC.append {w : World} {lo : Nat} {m : List Fld} {ds : List Value} (hd : FldsC w lo m ds) : ∀ {l : List Fld} {cs : List Value}, FldsC w lo l cs → FldsC w lo (l ++ m) (cs ++ ds)
  | [], _, h => by cases h; exact hd
  | f :: l, cs, ⟨a, c, r, h1, h2, h3, h4, h5, h6⟩ => ⟨a, c, r ++ ds, by rw [h1, List.append_assoc], h2, h3, h4, h5, FldsC.append hd h6⟩
theorem At.app {w : World} {b off : Nat} {x y : List Value} (h1 : At w b off x) (h2 : At w b (off + x.length) y) : At w b off (x ++ y) := by
  obtain ⟨cs, ty, fr, h3, h4⟩ := h1
  obtain ⟨cs', ty', fr', h5, h6⟩ := h2
  rw [h3] at h5
  cases h5
  refine ⟨cs, ty, fr, h3, ?_⟩
  rw [List.length_append, List.take_add, h4, List.drop_drop, h6]
theorem At.left {w : World} {b off : Nat} {x y : List Value} (h : At w b off (x ++ y)) : At w b off x := by
  have := h.sub 0 x (by simp)
  simpa using this
theorem At.right {w : World} {b off : Nat} {x y : List Value} (h : At w b off (x ++ y)) : At w b (off + x.length) y := h.sub x.length y (by simp)
theorem Rd.toC {w : World} {lo : Nat} : ∀ {l : List Fld} {b off : Nat}, l ≠ [] → Rd w lo (some ⟨b, off, none⟩) l → ∃ cs, FldsC w lo l cs ∧ At w b off cs
  | [], b, off, h0, _ => absurd rfl h0
  | [f], b, off, _, h => by
    cases h with
    | cons hb hc hn hl hat hs hr => exact ⟨_, ⟨_, _, [], (by rw [List.append_nil]), hc, hn, hl, hs, rfl⟩, hat⟩
  | f :: g :: l, b, off, _, h => by
    cases h with
    | cons hb hc hn hl hat hs hr =>
      obtain ⟨cs, h1, h2⟩ := Rd.toC (by simp) hr
      exact ⟨_, ⟨_, _, cs, rfl, hc, hn, hl, hs, h1⟩, At.app hat (by rw [cells7]; exact h2)⟩
theorem FldsC.toRd {w : World} {lo lo' : Nat} (hle : lo ≤ lo') : ∀ {l : List Fld} {cs : List Value} {b off : Nat}, b < lo' → FldsC w lo l cs → At w b off cs → Rd w lo' (some ⟨b, off, none⟩) l
  | [], _, _, _, _, _, _ => .nil _
  | f :: l, cs, b, off, hb, ⟨a, c, r, h1, h2, h3, h4, h5, h6⟩, hat => by
    subst h1
    exact .cons hb h2 h3 h4 (At.left hat) (h5.weaken hle) (FldsC.toRd hle hb h6 (by have := At.right hat; rw [cells7] at this; exact this))
/-- A part of a list that lies. -/
theorem Rd.drop {w : World} {lo : Nat} : ∀ {l : List Fld} {b off : Nat} (i : Nat), Rd w lo (some ⟨b, off, none⟩) l → Rd w lo (some ⟨b, off + i * 7, none⟩) (l.drop i)
  | l, b, off, 0, h => by simpa using h
  | [], b, off, i + 1, _ => by simpa using Rd.nil _
  | f :: l, b, off, i + 1, h => by
    cases h with
    | cons hb hc hn hl hat hs hr =>
      have := Rd.drop i hr
      rw [show off + (i + 1) * 7 = off + 7 + i * 7 by omega]
      simpa using this
/-- The cells of a list that lies can be read, wherever one is. -/
theorem canRead_rd {wb : World} {L : Own} {lo : Nat} {l : List Fld} {b off : Nat} (h : Rd wb lo (some ⟨b, off, none⟩) l) (hlo : lo ≤ wb.heap.size) (hL : ∀ p ∈ L, wb.heap.size ≤ p.1) : ∃ cs, FldsC wb lo l cs ∧ CanRead wb L ⟨b, off, none⟩ cs := by
  by_cases h0 : l = []
  · subst h0
    exact ⟨[], rfl, fun w hw j v hj => by simp at hj⟩
  · obtain ⟨cs, h1, h2⟩ := Rd.toC h0 h
    exact ⟨cs, h1, CanRead.of_at fun w hw => h2.of_block (hw.rest b h2.lt (out_of fun p hp => Nat.lt_of_lt_of_le h2.lt (hL p hp)))⟩
/-- A row of fields in one's own block is a list of fields. -/
theorem RowO.rd {wb : World} {ty : TypeId} {L M : Own} {a : Option Addr} {n c : Nat} {xs : List Value} {l : List Fld} {lo : Nat} (hro : RowO wb ty 7 L M (.slice a n c) l.length xs) (hx : FldsC wb lo l xs) (hlo : lo ≤ wb.heap.size) {L' : Own} {w' : World} (hw : Sy wb L' w') (hLL : ∀ p ∈ L, p ∈ L') (hL : ∀ p ∈ L', lo ≤ p.1) : Rd w' w'.heap.size a l := by
  obtain ⟨h0, ⟨h1, h2, h3⟩ | ⟨b, cap, cs, h1, h2, h3, h4, h5, h6, h7⟩⟩ := hro
  · rw [List.eq_nil_of_length_eq_zero h2]; exact .nil _
  · injection h1 with q1 q2 q3
    subst q1
    have hm : (b, Obj.cells cs.toArray ty (0, 0)) ∈ L' := hLL _ (by rw [h2]; exact .head _)
    exact FldsC.toRd (Nat.le_trans hlo hw.size) (hw.lt hm) (hx.sy hlo hw hL) (At.of_own hw hm (by rw [List.drop_zero, h0, h7]))
theorem RowO.frame {wb : World} {ty : TypeId} {sz n : Nat} {R M : Own} {v : Value} {xs : List Value} (h : RowO wb ty sz R [] v n xs) : RowO wb ty sz (R ++ M) M v n xs := by
  obtain ⟨h0, ⟨h1, h2, h3⟩ | ⟨b, cap, cs, h1, h2, h3⟩⟩ := h
  · exact ⟨h0, .inl ⟨h1, h2, by rw [h3]; rfl⟩⟩
  · exact ⟨h0, .inr ⟨b, cap, cs, h1, by rw [h2]; rfl, h3⟩⟩
theorem RowO.unframe {wb : World} {ty : TypeId} {sz n : Nat} {L M : Own} {v : Value} {xs : List Value} (h : RowO wb ty sz L M v n xs) : ∃ R, L = R ++ M ∧ RowO wb ty sz R [] v n xs := by
  obtain ⟨h0, ⟨h1, h2, h3⟩ | ⟨b, cap, cs, h1, h2, h3⟩⟩ := h
  · exact ⟨[], by rw [h3]; rfl, h0, .inl ⟨h1, h2, rfl⟩⟩
  · exact ⟨[_], by rw [h2]; rfl, h0, .inr ⟨b, cap, cs, h1, rfl, h3⟩⟩
theorem RowO.le {wb : World} {ty : TypeId} {sz n : Nat} {L M : Own} {a : Option Addr} {n' c : Nat} {xs : List Value} (h : RowO wb ty sz L M (.slice a n' c) n xs) : n' = n ∧ n ≤ c ∧ c ≤ 9223372036854775807 := by
  obtain ⟨h0, ⟨h1, h2, h3⟩ | ⟨b, cap, cs, h1, h2, h3, h4, h5, h6, h7⟩⟩ := h
  · cases h1; omega
  · cases h1; simp only [maxLen] at h5; omega
theorem storeX_weak {P : Program} {t : TypeId} {a v : Value} {wb : World} {L L' : Own} {K : Own → Prop} (hs : ∀ w, Sy wb L w → Sy wb L' w) (h : StoreX P t a v wb L' (tag K)) : StoreX P t a v wb L (tag K) := by
  obtain ⟨L2, h1, h2⟩ := h
  exact ⟨L2, fun w hw => h1 w (hs w hw), h2⟩
end Go.Proofs.YtdmdgkpjjpijdaaDoor
