/- YtgbafmjgfbgeoaaDoor: the walk calculus, part Ki: proved rules by which the walks of this seat are made. -/
import Derived.Test.YtgbafmjgfbgeoaaDoorKh

namespace Go.K
open Go
set_option linter.unusedVariables false
set_option linter.unusedSimpArgs false

/-! ### Maps whose keys are whole numbers -/
structure KeysOf (es : Array MapEntry) (S : List Int) : Prop where
  int : ∀ e ∈ es.toList, ∃ y, e.key = i64 y
  mem : ∀ x, (∃ e ∈ es.toList, e.key = i64 x) ↔ x ∈ S
theorem KeysOf.nil : KeysOf #[] [] := ⟨fun e h => by simp at h, fun x => by simp⟩

theorem findNow_int (x : Int) : ∀ (es : List MapEntry) (i : Nat), (∀ e ∈ es, ∃ y, e.key = i64 y) →
    ∃ r, Instr.findNow (.int .i64) (i64 x) es i = some r ∧ (r.isSome = true ↔ ∃ e ∈ es, e.key = i64 x) ∧ ∀ j v, r = some (j, v) → i ≤ j ∧ ∃ e, es[j - i]? = some e ∧ e.key = i64 x
  | [], i, _ => ⟨none, rfl, by simp, fun j v h => by cases h⟩
  | e :: es, i, h => by
    obtain ⟨y, hy⟩ := h e (by simp)
    by_cases hxy : x = y
    · subst hxy
      refine ⟨some (i, e.val), by simp [Instr.findNow, hy, Instr.sameNow], by simp [hy], fun j v hj => ?_⟩
      cases hj
      exact ⟨Nat.le_refl _, e, by simp, hy⟩
    · obtain ⟨r, h1, h2, h3⟩ := findNow_int x es (i + 1) (fun e he => h e (by simp [he]))
      have hbe : (x == y) = false := by simp [hxy]
      refine ⟨r, by simp only [Instr.findNow, hy, Instr.sameNow, if_true, hbe, h1], ?_, fun j v hj => ?_⟩
      · rw [h2]
        constructor
        · rintro ⟨e', h4, h5⟩; exact ⟨e', by simp [h4], h5⟩
        · rintro ⟨e', h4, h5⟩
          rcases List.mem_cons.1 h4 with h6 | h6
          · subst h6; rw [hy] at h5; cases h5; exact absurd rfl hxy
          · exact ⟨e', h6, h5⟩
      · obtain ⟨h4, e', h5, h6⟩ := h3 j v hj
        refine ⟨by omega, e', ?_, h6⟩
        rw [show j - i = (j - (i + 1)) + 1 by omega]
        simpa using h5

variable {P : Program} {wb : World} {L : Own} {t kt et : TypeId}
theorem checkKey_int {b : Bool} {x : Int} (hk : P.underlying kt = some (.int .i64)) (w : World) : (Instr.checkKey b 10000 kt (i64 x)).run P w = .ok () w := by
  unfold Instr.checkKey
  simp [underlying, hk]
theorem findKey_int {es : Array MapEntry} {S : List Int} {x : Int} (hk : P.underlying kt = some (.int .i64)) (h : KeysOf es S) (w : World) :
    ∃ r, (Instr.findKey kt (i64 x) es.toList).run P w = .ok r w ∧ (r.isSome = true ↔ x ∈ S) ∧ ∀ j v, r = some (j, v) → ∃ e, es[j]? = some e ∧ e.key = i64 x := by
  obtain ⟨r, h1, h2, h3⟩ := findNow_int x es.toList 0 h.int
  refine ⟨r, by simp [Instr.findKey, underlying, hk, h1], h2.trans (h.mem x), fun j v hj => ?_⟩
  obtain ⟨_, e, h4, h5⟩ := h3 j v hj
  exact ⟨e, by simpa using h4, h5⟩
/-- v, ok := m[x] -/
theorem lookupX {K : Value → World → Own → Prop} {m clock : Nat} {es : Array MapEntry} {S : List Int} {x : Int} {z : Value} (ht : P.underlying t = some (.map kt et)) (hk : P.underlying kt = some (.int .i64)) (hz : ∀ w, (zeroValue et).run P w = .ok z w)
    (hm : ∀ w, Sy wb L w → w.heap[m]? = some (.map es clock)) (h : KeysOf es S) (hK : ∀ v, K (.tuple #[v, .bool (decide (x ∈ S))]) wb L) : ValX P (Instr.lookup t (.map (some m)) (i64 x) true) wb L (tag K) := by
  intro w hw
  obtain ⟨r, h1, h2, h3⟩ := findKey_int (x := x) hk h w
  have hg : (getObj m).run P w = .ok (.map es clock) w := by simp [getObj, Sem.run, hm w hw]
  cases r with
  | none =>
    refine ⟨.tuple #[z, .bool (decide (x ∈ S))], w, wb, L, ?_, hw, hK z⟩
    have hx : x ∉ S := fun hx => by have := h2.2 hx; simp at this
    simp [Instr.lookup, underlying, ht, hg, checkKey_int hk, h1, hz, hx]
  | some jv =>
    obtain ⟨j, v⟩ := jv
    refine ⟨.tuple #[v, .bool (decide (x ∈ S))], w, wb, L, ?_, hw, hK v⟩
    have hx : x ∈ S := h2.1 rfl
    simp [Instr.lookup, underlying, ht, hg, checkKey_int hk, h1, hx]
/-- m[x] = v, m one's own. -/
theorem mapUpdateX {K : World → Own → Prop} {m clock : Nat} {es : Array MapEntry} {S : List Int} {x : Int} {v : Value} (i : Nat) (hi : L[i]? = some (m, .map es clock)) (ht : P.underlying t = some (.map kt et)) (hk : P.underlying kt = some (.int .i64)) (h : KeysOf es S)
    (hK : ∀ es' clock', KeysOf es' (x :: S) → K wb (L.set i (m, .map es' clock'))) : UnitX P (Instr.mapUpdate t (.map (some m)) (i64 x) v) wb L (tag K) := by
  intro w hw
  have hb := hw.own m _ (List.mem_iff_getElem?.2 ⟨i, hi⟩)
  obtain ⟨r, h1, h2, h3⟩ := findKey_int (x := x) hk h w
  have hg : (getObj m).run P w = .ok (.map es clock) w := by simp [getObj, Sem.run, hb]
  have hs : ∀ o, (setObj m o).run P w = .ok () { w with heap := w.heap.setIfInBounds m o } := fun o => by simp [setObj, Sem.run, hb]
  cases r with
  | none =>
    refine ⟨_, wb, _, ?_, hw.set (.map (es.push { key := i64 x, val := v, born := clock }) (clock + 1)) hi, hK _ _ ⟨fun e he => ?_, fun y => ?_⟩⟩
    · simp [Instr.mapUpdate, underlying, ht, hg, checkKey_int hk, h1, hs]
    · simp only [Array.toList_push, List.mem_append, List.mem_singleton] at he
      rcases he with he | he
      · exact h.int e he
      · subst he; exact ⟨x, rfl⟩
    · rw [List.mem_cons, ← h.mem y]
      constructor
      · rintro ⟨e, he, hy⟩
        rw [Array.toList_push, List.mem_append, List.mem_singleton] at he
        rcases he with he | he
        · exact .inr ⟨e, he, hy⟩
        · subst he; cases hy; exact .inl rfl
      · rintro (rfl | ⟨e, he, hy⟩)
        · exact ⟨_, by rw [Array.toList_push]; exact List.mem_append.2 (.inr (List.mem_singleton.2 rfl)), rfl⟩
        · exact ⟨e, by rw [Array.toList_push]; exact List.mem_append.2 (.inl he), hy⟩
  | some jv =>
    obtain ⟨j, u⟩ := jv
    obtain ⟨e0, h4, h5⟩ := h3 j u rfl
    have hx : x ∈ S := h2.1 rfl
    refine ⟨_, wb, _, ?_, hw.set (.map (es.modify j fun e => { e with key := i64 x, val := v }) clock) hi, hK _ _ ⟨fun e he => ?_, fun y => ?_⟩⟩
    · simp [Instr.mapUpdate, underlying, ht, hg, checkKey_int hk, h1, h4, h5, Instr.keyThatStays, Instr.sameBits, hs]
    · obtain ⟨l, hl⟩ := List.mem_iff_getElem?.1 he
      rw [Array.getElem?_toList, Array.getElem?_modify] at hl
      split at hl
      · cases hh : es[l]? with
        | none => rw [hh] at hl; simp at hl
        | some e' => rw [hh] at hl; simp only [Option.map_some, Option.some.injEq] at hl; subst hl; exact ⟨x, rfl⟩
      · exact h.int e (List.mem_iff_getElem?.2 ⟨l, by rw [Array.getElem?_toList]; exact hl⟩)
    · have hxx : y ∈ x :: S ↔ y ∈ S := by
        constructor
        · intro hy; rcases List.mem_cons.1 hy with rfl | hy
          · exact hx
          · exact hy
        · exact fun hy => by simp [hy]
      rw [hxx, ← h.mem y]
      constructor
      · rintro ⟨e, he, hy⟩
        obtain ⟨l, hl⟩ := List.mem_iff_getElem?.1 he
        rw [Array.getElem?_toList, Array.getElem?_modify] at hl
        split at hl
        · rename_i hjl
          subst hjl
          rw [h4] at hl
          simp only [Option.map_some, Option.some.injEq] at hl
          subst hl
          exact ⟨e0, List.mem_iff_getElem?.2 ⟨j, by rw [Array.getElem?_toList]; exact h4⟩, by rw [h5]; exact hy⟩
        · exact ⟨e, List.mem_iff_getElem?.2 ⟨l, by rw [Array.getElem?_toList]; exact hl⟩, hy⟩
      · rintro ⟨e, he, hy⟩
        obtain ⟨l, hl⟩ := List.mem_iff_getElem?.1 he
        rw [Array.getElem?_toList] at hl
        by_cases hjl : j = l
        · subst hjl
          rw [h4] at hl; cases hl
          rw [h5] at hy; cases hy
          exact ⟨{ e0 with key := i64 x, val := v }, List.mem_iff_getElem?.2 ⟨j, by rw [Array.getElem?_toList, Array.getElem?_modify, if_pos rfl, h4]; rfl⟩, rfl⟩
        · exact ⟨e, List.mem_iff_getElem?.2 ⟨l, by rw [Array.getElem?_toList, Array.getElem?_modify, if_neg hjl]; exact hl⟩, hy⟩
/-- Of the slots only this is kept. -/
theorem forget {c : Cfg} {code : Code} {Q : Post} {e : Env} {ds : List Deferred} (F : Env → Prop) (hF : F e) (h : ∀ e, F e → VT c (tag code) (tag Q) wb e ds L) : VT c (tag code) (tag Q) wb e ds L := h e hF
end Go.K
