/- YtgbafmjgfbgeoaaDoor: the walk calculus, part Km: proved rules by which the walks of this seat are made. -/
import Derived.Test.YtgbafmjgfbgeoaaDoorKl
import Derived.Lib.AppendStr

namespace Go.K
open Go Go.Lib
set_option linter.unusedVariables false
set_option linter.unusedSimpArgs false

variable {wb : World} {L : Own} {P : Program}

def bytesV (s : List UInt8) : List Value := s.map fun b => Value.int .u8 b.toNat
theorem bytesV_length (s : List UInt8) : (bytesV s).length = s.length := by simp [bytesV]
theorem bytesV_append (s t : List UInt8) : bytesV (s ++ t) = bytesV s ++ bytesV t := by simp [bytesV]
theorem bytesV_one (s : List UInt8) : ∀ u ∈ bytesV s, u.oneCell' = true := by
  intro u hu
  simp only [bytesV, List.mem_map] at hu
  obtain ⟨b, _, rfl⟩ := hu
  rfl
theorem strCells_eq (s : List UInt8) : strCells ⟨s.toArray⟩ = bytesV s := rfl

/-- append(b, s...) of a text -/
theorem appendS {t u ty e : TypeId} {n : Nat} {M : Own} {v : Value} {xs : List Value} (s : List UInt8) {K : Value → World → Own → Prop}
    (ht : P.underlying t = some (.slice e)) (hu : P.underlying u = some .string) (hi : (P.info? e).map (fun i => (i.zero, i.size, i.bytes)) = some (some (.int .u8 0), 1, 1))
    (hrow : RowO wb e 1 L M v n xs) (hb : n + s.length ≤ 140737488355328)
    (hK : ∀ v' L', RowO wb e 1 L' M v' (n + s.length) (xs ++ bytesV s) → K v' wb L') : ValX P (Builtin.append_ #[t, u] ty #[v, str s]) wb L (tag K) := by
  cases hh : P.info? e with
  | none => rw [hh] at hi; cases hi
  | some inf =>
    rw [hh] at hi
    simp only [Option.map_some, Option.some.injEq, Prod.mk.injEq] at hi
    obtain ⟨hz, hsize, hby⟩ := hi
    intro w hw
    have hsz : (⟨s.toArray⟩ : ByteArray).size = s.length := rfl
    obtain ⟨hxl, hrow⟩ := hrow
    rcases hrow with ⟨rfl, rfl, rfl⟩ | ⟨b, cap, cs, rfl, rfl, hbb, hnc, hcm, hcl, hct⟩
    · have hx : xs = [] := by simpa using hxl
      subst hx
      rcases Nat.eq_zero_or_pos s.length with h0 | hpos
      · have hs0 : s = [] := List.eq_nil_of_length_eq_zero h0
        subst hs0
        refine ⟨.slice none 0 0, w, wb, L, ?_, hw, hK _ _ ⟨by simp [bytesV], .inl ⟨rfl, rfl, rfl⟩⟩⟩
        have h00 : (⟨#[]⟩ : ByteArray).size = 0 := rfl
        simp [Builtin.append_, run_underlying ht, run_underlying hu, sizeOf, typeInfo, hh, Builtin.lenOf, Builtin.firstCells, h00, hsize]
      · have hrun := run_append_nil_string (P := P) w t u ty e inf _ ht hu hh hz ⟨s.toArray⟩ (by rw [hsz]; exact hpos) (by rw [hsz]; omega) (by rw [hsz, hby]; omega)
        rw [hsz] at hrun
        have hge := grownCap_ge w s.length 0 e
        have hle := grownCap_le_maxLen w s.length 0 e (by simp only [maxLen]; omega)
        refine ⟨_, _, wb, _, hrun, hw.drewn.new _, hK _ _ ⟨by simp [bytesV], .inr ⟨w.heap.size, grownCap w s.length 0 e, bytesV s ++ (Builtin.zeroCells (Value.int .u8 0).cells (grownCap w s.length 0 e - s.length)).toList, by simp, ?_, hw.size, by omega, hle, ?_, ?_⟩⟩⟩
        · show (w.heap.size, _) :: L = _
          congr 2
          rw [Obj.cells.injEq]
          refine ⟨?_, rfl, rfl⟩
          apply Array.toList_inj.1
          simp [bytesV]
        · have hz1 : (Builtin.zeroCells (Value.int .u8 0).cells (grownCap w s.length 0 e - s.length)).toList.length = grownCap w s.length 0 e - s.length := by
            rw [Array.length_toList, zeroCells_length]; exact Nat.mul_one _
          rw [List.length_append, bytesV_length, hz1]
          omega
        · rw [Nat.zero_add, Nat.mul_one, ← bytesV_length s, List.take_left]
          simp
    · have hbo := hw.own b _ (List.mem_cons_self ..)
      have hcells : ∀ j u, xs[j]? = some u → w.cell? ((⟨b, 0, none⟩ : Addr).add j) = some u := by
        intro j u hu
        have hadd : (⟨b, 0, none⟩ : Addr).add j = ⟨b, j, none⟩ := by unfold Addr.add; split <;> simp_all
        rw [hadd]
        simp only [World.cell?, hbo]
        rw [← hct, List.getElem?_take] at hu
        split at hu
        · simpa using hu
        · cases hu
      have hxn : xs.length = n := by simpa using hxl
      have hcc : cs.length = cap := by simpa using hcl
      have hct' : cs.take n = xs := by simpa using hct
      rcases Nat.lt_or_ge cap (n + s.length) with hg | hroom
      · have hrun := run_append_grow_string (P := P) w t u ty e inf _ ht hu hh hz ⟨b, 0, none⟩ n cap xs (by rw [hsize, hxl]) hcells ⟨s.toArray⟩ (by rw [hsz]; exact hg) (by rw [hsz]; omega) (by rw [hsz, hby]; exact growslice_fits hg (by omega))
        rw [hsz] at hrun
        have hge := grownCap_ge w (n + s.length) cap e
        have hle := grownCap_le_maxLen w (n + s.length) cap e (by simp only [maxLen]; omega)
        refine ⟨_, _, wb, (w.heap.size, .cells (xs.toArray ++ (strCells ⟨s.toArray⟩).toArray ++ Builtin.zeroCells (Value.int .u8 0).cells (grownCap w (n + s.length) cap e - (n + s.length))) e) :: M, hrun, ?_, hK _ _ ⟨by simp [hxn, bytesV_length], .inr ⟨w.heap.size, grownCap w (n + s.length) cap e, xs ++ bytesV s ++ (Builtin.zeroCells (Value.int .u8 0).cells (grownCap w (n + s.length) cap e - (n + s.length))).toList, rfl, ?_, hw.size, hge, hle, ?_, ?_⟩⟩⟩
        · exact (hw.drewn.new (.cells (xs.toArray ++ (strCells ⟨s.toArray⟩).toArray ++ Builtin.zeroCells (Value.int .u8 0).cells (grownCap w (n + s.length) cap e - (n + s.length))) e)).lose (i := 1) (b := b) (o := .cells cs.toArray e (0, 0)) (by simp) hbb
        · simp [strCells_eq]
        · have hz1 : (Builtin.zeroCells (Value.int .u8 0).cells (grownCap w (n + s.length) cap e - (n + s.length))).toList.length = grownCap w (n + s.length) cap e - (n + s.length) := by
            rw [Array.length_toList, zeroCells_length]; exact Nat.mul_one _
          rw [List.length_append, List.length_append, hxn, bytesV_length, hz1]
          omega
        · have : (xs ++ bytesV s).length = (n + s.length) * 1 := by rw [List.length_append, hxn, bytesV_length, Nat.mul_one]
          rw [← this, List.take_left]
      · have hrun := run_append_room_string (P := P) w t u ty e inf ht hu hh hsize b n cap cs.toArray hbo ⟨s.toArray⟩ (by rw [hsz]; exact hroom) (by rw [hsz]; simp; omega)
        rw [hsz] at hrun
        refine ⟨_, _, wb, (b, .cells (xs ++ bytesV s ++ cs.drop (n + s.length)).toArray e (0, 0)) :: M, hrun, ?_, hK _ _ ⟨by simp [hxn, bytesV_length], .inr ⟨b, cap, xs ++ bytesV s ++ cs.drop (n + s.length), rfl, rfl, hbb, hroom, hcm, ?_, ?_⟩⟩⟩
        · have h2 := hw.set (i := 0) (b := b) (o := .cells cs.toArray e (0, 0)) (.cells (xs ++ bytesV s ++ cs.drop (n + s.length)).toArray e (0, 0)) (by simp)
          simp only [List.set_cons_zero] at h2
          have h3 : w.setRow b (cs.toArray.toList.take n ++ strCells ⟨s.toArray⟩ ++ cs.toArray.toList.drop (n + s.length)).toArray = { w with heap := w.heap.setIfInBounds b (.cells (xs ++ bytesV s ++ cs.drop (n + s.length)).toArray e (0, 0)) } := by
            unfold World.setRow
            congr 1
            apply Array.ext_getElem?
            intro j
            rw [Array.getElem?_modify, Array.getElem?_setIfInBounds]
            have hlt := (Array.getElem?_eq_some_iff.1 hbo).1
            split
            · rename_i hj; subst hj; rw [hbo]; simp [hct', hlt, strCells_eq]
            · rfl
          rw [h3]; exact h2
        · rw [List.length_append, List.length_append, List.length_drop, hxn, bytesV_length]; omega
        · have : (xs ++ bytesV s).length = (n + s.length) * 1 := by rw [List.length_append, hxn, bytesV_length, Nat.mul_one]
          rw [← this, List.take_left]
/-- append(b, c, ..) of bytes that lie in a new row. -/
theorem appendB {t ty e : TypeId} {n b1 : Nat} {M : Own} {v : Value} {xs : List Value} (s : List UInt8) {K : Value → World → Own → Prop} {L0 : Own}
    (ht : P.underlying t = some (.slice e)) (hi : (P.info? e).map (fun i => (i.zero, i.size, i.bytes)) = some (some (.int .u8 0), 1, 1))
    (hrow : RowO wb e 1 L0 M v n xs) (hb1 : wb.heap.size ≤ b1) (hb : n + s.length ≤ 140737488355328)
    (hK : ∀ v' L', RowO wb e 1 L' ((b1, .cells (bytesV s).toArray e (0, 0)) :: M) v' (n + s.length) (xs ++ bytesV s) → K v' wb L') :
    ValX P (Builtin.append_ #[t, t] ty #[v, .slice (some ⟨b1, 0, none⟩) s.length s.length]) wb ((b1, .cells (bytesV s).toArray e (0, 0)) :: L0) (tag K) := by
  obtain ⟨L2, hro2, hs2⟩ := hrow.over (b1, Obj.cells (bytesV s).toArray e (0, 0))
  refine valX_weak hs2 (appendI ht hi rfl hro2 (news := bytesV s) (m := s.length) (by simp [bytesV_length]) (CanRead.of_own (n := s.length) (hro2.mem (.head _)) (bytesV_length s) (by rw [← bytesV_length s, List.take_length])) (bytesV_one s) (by simp only [maxLen]; omega) (by omega) (fun v' L' hr _ => hK v' L' hr))
theorem RowO.new {e : TypeId} {size n : Nat} {L' M : Own} {v : Value} {xs : List Value} (h : RowO wb e size L' M v n xs) (hM : ∀ p ∈ M, wb.heap.size ≤ p.1) : ∀ p ∈ L', wb.heap.size ≤ p.1 := by
  obtain ⟨h0, ⟨h1, h2, h3⟩ | ⟨b, cap, cs, h1, h2, h3, _⟩⟩ := h
  · subst h3; exact hM
  · subst h2
    intro p hp
    rcases List.mem_cons.1 hp with rfl | hp
    · exact h3
    · exact hM p hp
theorem RowO.shrink {e : TypeId} {size n : Nat} {L' M : Own} (A : Own) {v : Value} {xs : List Value} (h : RowO wb e size L' (A ++ M) v n xs) (hA : ∀ p ∈ A, wb.heap.size ≤ p.1) : ∃ L'', RowO wb e size L'' M v n xs ∧ ∀ w, Sy wb L' w → Sy wb L'' w := by
  obtain ⟨h0, ⟨h1, h2, h3⟩ | ⟨b, cap, cs, h1, h2, h3⟩⟩ := h
  · subst h3; exact ⟨M, ⟨h0, .inl ⟨h1, h2, rfl⟩⟩, fun w hw => hw.left hA⟩
  · subst h2; exact ⟨_, ⟨h0, .inr ⟨b, cap, cs, h1, rfl, h3⟩⟩, fun w hw => hw.mid [_] A hA⟩
theorem RowO.cast {e : TypeId} {size n n' : Nat} {L' M : Own} {v : Value} {xs xs' : List Value} (h : RowO wb e size L' M v n xs) (hn : n = n') (hx : xs = xs') : RowO wb e size L' M v n' xs' := by subst hn; subst hx; exact h
end Go.K
