/- YtgbafmjgfbgeoaaDoor: the walk calculus, part Kj: proved rules by which the walks of this seat are made. -/
import Derived.Test.YtgbafmjgfbgeoaaDoorKi
import Derived.Laws.Append
import Derived.Laws.AppendOwn

namespace Go.K
open Go
set_option linter.unusedVariables false
set_option linter.unusedSimpArgs false

variable {wb : World} {L : Own} {P : Program}

/-- The order of what is owned is of no account. -/
theorem Sy.perm {M : Own} {w : World} (h : Sy wb L w) (hp : L.Perm M) : Sy wb M w :=
  ⟨h.os, h.tape, h.output, h.size, fun b o hm => h.own b o (hp.mem_iff.2 hm), (hp.map _).nodup_iff.1 h.nodup, fun k hk hn => h.rest k hk (fun hm => hn ((hp.map (·.1)).mem_iff.1 hm))⟩
theorem set_perm {α : Type} (x : α) : ∀ (l : List α) (i : Nat), i < l.length → (l.set i x).Perm (x :: l.eraseIdx i)
  | [], i, h => by simp at h
  | a :: l, 0, _ => by simp
  | a :: l, i + 1, h => by
    simp only [List.set_cons_succ, List.eraseIdx_cons_succ]
    exact ((set_perm x l i (by simpa using h)).cons a).trans (List.Perm.swap x a _)
theorem Sy.lose {w : World} {i b : Nat} {o : Obj} (h : Sy wb L w) (hi : L[i]? = some (b, o)) (hb : wb.heap.size ≤ b) : Sy wb (L.eraseIdx i) w := by
  refine h.drop (List.eraseIdx_sublist _ _) fun p hp => ?_
  obtain ⟨j, hj⟩ := List.mem_iff_getElem?.1 hp
  by_cases hij : j = i
  · subst hij; rw [hi] at hj; cases hj; exact .inr hb
  · refine .inl (List.mem_iff_getElem?.2 ?_)
    rcases Nat.lt_or_gt_of_ne hij with hlt | hgt
    · exact ⟨j, by rw [List.getElem?_eraseIdx_of_lt hlt]; exact hj⟩
    · exact ⟨j - 1, by rw [List.getElem?_eraseIdx_of_ge (by omega), show j - 1 + 1 = j by omega]; exact hj⟩
theorem zeroCells_length (z : Array Value) (n : Nat) : (Builtin.zeroCells z n).size = n * z.size := by simp [Builtin.zeroCells]

/-- What is appended can be read. -/
def CanRead (wb : World) (L : Own) (a : Addr) (news : List Value) : Prop := ∀ w, Sy wb L w → ∀ j v, news[j]? = some v → w.cell? (a.add j) = some v
theorem CanRead.of_at {b off : Nat} {news : List Value} (h : ∀ w, Sy wb L w → At w b off news) : CanRead wb L ⟨b, off, none⟩ news := fun w hw j v hj => by
  have ha : (⟨b, off, none⟩ : Addr).add j = ⟨b, off + j, none⟩ := by
    unfold Addr.add; split
    · rename_i h0; subst h0; rfl
    · rfl
  rw [ha]
  exact (h w hw).cell j v hj

/-- A row of one's own, or nil; M: what else is owned. -/
def RowO (wb : World) (e : TypeId) (size : Nat) (L M : Own) (v : Value) (n : Nat) (xs : List Value) : Prop :=
  xs.length = n * size ∧ ((v = .slice none 0 0 ∧ n = 0 ∧ L = M) ∨
    ∃ (b cap : Nat) (cs : List Value), v = .slice (some ⟨b, 0, none⟩) n cap ∧ L = (b, .cells cs.toArray e (0, 0)) :: M ∧ wb.heap.size ≤ b ∧ n ≤ cap ∧ cap ≤ maxLen ∧ cs.length = cap * size ∧ cs.take (n * size) = xs)

theorem oneCell_of {v : Value} {l : List Value} (h : ∀ u ∈ l, u.oneCell' = true) (hv : v ∈ l) : v.oneCell' = true := h v hv

theorem Sy.drewn {w : World} (h : Sy wb L w) : Sy wb L w.drew := ⟨h.os, h.tape, h.output, h.size, h.own, h.nodup, h.rest⟩

theorem appendX {t ty e : TypeId} {inf : TypeInfo} {z : Value} {size bytes n m c : Nat} {M : Own} {v : Value} {xs news : List Value} {a : Addr} {K : Value → World → Own → Prop}
    (ht : P.underlying t = some (.slice e)) (hi : P.info? e = some inf) (hz : inf.zero = some z) (hsize : inf.size = size) (hby : inf.bytes = bytes) (hzs : z.cells.size = size)
    (hrow : RowO wb e size L M v n xs) (hl : news.length = m * size) (hr : CanRead wb L a news) (h1 : ∀ u ∈ news, u.oneCell' = true) (h63 : n + m ≤ maxLen) (hbytes : (n + m) * bytes ≤ 140737488355328)
    (hK : ∀ v' L', RowO wb e size L' M v' (n + m) (xs ++ news) → (v' = .slice none 0 0 ↔ v = .slice none 0 0 ∧ m = 0) → K v' wb L') : ValX P (Builtin.append_ #[t, t] ty #[v, .slice (some a) m c]) wb L (tag K) := by
  subst hsize; subst hby
  intro w hw
  have hnews := hr w hw
  have h63' : ((n + m : Nat) : Int) ≤ 9223372036854775807 := by simp only [maxLen] at h63; omega
  obtain ⟨hxl, hrow⟩ := hrow
  rcases hrow with ⟨rfl, rfl, rfl⟩ | ⟨b, cap, cs, rfl, rfl, hb, hnc, hcm, hcl, hct⟩
  · have hx : xs = [] := by simpa using hxl
    subst hx
    rcases Nat.eq_zero_or_pos m with rfl | hm
    · have hn0 : news = [] := by simpa using hl
      subst hn0
      have hf := run_firstCells_some (P := P) w inf.size 0 a 0 c [] (by simp) (by simp)
      refine ⟨.slice none 0 0, w, wb, L, ?_, hw, hK _ _ ⟨by simp, .inl ⟨rfl, rfl, rfl⟩⟩ (by simp)⟩
      simp [Builtin.append_, run_underlying ht, sizeOf, typeInfo, hi, Builtin.lenOf, hf]
    · have hrun := run_append_nil (P := P) w t ty e inf z ht hi hz a m c news hl hnews hm (by omega) (by
        rw [Nat.zero_add] at hbytes; omega)
      have hge := grownCap_ge w m 0 e
      have hle := grownCap_le_maxLen w m 0 e (by omega)
      refine ⟨_, _, wb, _, hrun, hw.drewn.new _, hK _ _ ⟨by simp [hl], .inr ⟨w.heap.size, grownCap w m 0 e, news ++ (Builtin.zeroCells z.cells (grownCap w m 0 e - m)).toList, by simp, ?_, hw.size, by omega, hle, ?_, ?_⟩⟩ ?_⟩
      · show (w.heap.size, _) :: L = _
        simp
      · rw [List.length_append, hl, Array.length_toList, zeroCells_length, hzs, ← Nat.add_mul, Nat.add_sub_cancel' hge]
      · rw [Nat.zero_add, ← hl]; simp
      · simp; omega
  · have hbo := hw.own b _ (List.mem_cons_self ..)
    have hcells : ∀ j u, xs[j]? = some u → w.cell? ((⟨b, 0, none⟩ : Addr).add j) = some u := by
      intro j u hu
      have hadd : (⟨b, 0, none⟩ : Addr).add j = ⟨b, j, none⟩ := by unfold Addr.add; split <;> simp_all
      rw [hadd]
      simp only [World.cell?, hbo]
      rw [← hct, List.getElem?_take] at hu
      split at hu
      · simpa using hu
      · cases hu
    rcases Nat.lt_or_ge cap (n + m) with hg | hroom
    · have hrun := run_append_grow (P := P) w t ty e inf z ht hi hz ⟨b, 0, none⟩ n cap xs hxl hcells a m c news hl hnews hg h63' (growslice_fits hg hbytes)
      have hge := grownCap_ge w (n + m) cap e
      have hle := grownCap_le_maxLen w (n + m) cap e h63
      refine ⟨_, _, wb, (w.heap.size, .cells (xs.toArray ++ news.toArray ++ Builtin.zeroCells z.cells (grownCap w (n + m) cap e - (n + m))) e) :: M, hrun, ?_, hK _ _ ⟨by simp [hxl, hl, Nat.add_mul], .inr ⟨w.heap.size, grownCap w (n + m) cap e, xs ++ news ++ (Builtin.zeroCells z.cells (grownCap w (n + m) cap e - (n + m))).toList, rfl, ?_, hw.size, hge, hle, ?_, ?_⟩⟩ ?_⟩
      · have h2 := (hw.drewn.new (.cells (xs.toArray ++ news.toArray ++ Builtin.zeroCells z.cells (grownCap w (n + m) cap e - (n + m))) e)).lose (i := 1) (b := b) (o := .cells cs.toArray e (0, 0)) (by simp) hb
        exact h2
      · simp
      · rw [List.length_append, List.length_append, hxl, hl, Array.length_toList, zeroCells_length, hzs, ← Nat.add_mul, ← Nat.add_mul, Nat.add_sub_cancel' hge]
      · rw [Nat.add_mul, ← hxl, ← hl, ← List.length_append, List.take_left]
      · simp
    · have hfit : n * inf.size + news.length ≤ cs.length := by rw [hl, hcl, ← Nat.add_mul]; exact Nat.mul_le_mul_right _ hroom
      have hrun := run_append_room (P := P) w t ty e inf ht hi b n cap cs.toArray hbo a m c news hl hnews h1 hroom (by simpa using hfit)
      refine ⟨_, _, wb, (b, .cells (xs ++ news ++ cs.drop (n * inf.size + news.length)).toArray e (0, 0)) :: M, hrun, ?_, hK _ _ ⟨by simp [hxl, hl, Nat.add_mul], .inr ⟨b, cap, xs ++ news ++ cs.drop (n * inf.size + news.length), rfl, rfl, hb, hroom, hcm, ?_, ?_⟩⟩ (by simp)⟩
      · have h2 := hw.set (i := 0) (b := b) (o := .cells cs.toArray e (0, 0)) (.cells (xs ++ news ++ cs.drop (n * inf.size + news.length)).toArray e (0, 0)) (by simp)
        simp only [List.set_cons_zero] at h2
        have h3 : w.setRow b (cs.toArray.toList.take (n * inf.size) ++ news ++ cs.toArray.toList.drop (n * inf.size + news.length)).toArray = { w with heap := w.heap.setIfInBounds b (.cells (xs ++ news ++ cs.drop (n * inf.size + news.length)).toArray e (0, 0)) } := by
          unfold World.setRow
          congr 1
          apply Array.ext_getElem?
          intro j
          rw [Array.getElem?_modify, Array.getElem?_setIfInBounds]
          have hlt := (Array.getElem?_eq_some_iff.1 hbo).1
          split
          · rename_i hj; subst hj; rw [hbo]; simp [hct, hlt]
          · rfl
        rw [h3]; exact h2
      · rw [List.length_append, List.length_append, List.length_drop, hxl]; omega
      · rw [Nat.add_mul, ← hxl, ← hl, ← List.length_append, List.take_left]
end Go.K
