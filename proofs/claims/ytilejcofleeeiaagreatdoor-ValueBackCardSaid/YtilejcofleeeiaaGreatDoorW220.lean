/- YtilejcofleeeiaaGreatDoor: walks, part 220: numbers as texts: strconv.FormatUint (base 10), FormatInt, Itoa, FormatBool. -/
import Derived.Lib.AtoiAll
import Derived.Lib.ParseIntB
import Derived.Lib.ItoaNum
import Derived.Test.YtilejcofleeeiaaGreatDoorW217
import Derived.Lib.AppendIntMem
import Derived.Lib.SmallJoins
import Derived.BigCall
import Derived.BigGuard
namespace Go.Proofs.YtilejcofleeeiaaGreatDoor
open Go
set_option maxRecDepth 100000
set_option linter.unusedVariables false
set_option linter.unusedSimpArgs false
/-- Past all bytes of a kind. -/
def runP (f : UInt8 → Bool) (s : List UInt8) (p : Nat) : Nat := p + ((s.drop p).takeWhile f).length
theorem runP_step {f : UInt8 → Bool} {s : List UInt8} {p : Nat} {c : UInt8} (h : s[p]? = some c) (hf : f c = true) : runP f s p = runP f s (p + 1) := by
  obtain ⟨h1, rfl⟩ := List.getElem?_eq_some_iff.1 h
  unfold runP
  rw [List.drop_eq_getElem_cons h1, List.takeWhile_cons, if_pos hf, List.length_cons]
  omega
theorem runP_stop {f : UInt8 → Bool} {s : List UInt8} {p : Nat} {c : UInt8} (h : s[p]? = some c) (hf : f c = false) : runP f s p = p := by
  obtain ⟨h1, rfl⟩ := List.getElem?_eq_some_iff.1 h
  unfold runP
  rw [List.drop_eq_getElem_cons h1, List.takeWhile_cons, if_neg (by rw [hf]; decide)]
  rfl
theorem runP_end {f : UInt8 → Bool} {s : List UInt8} {p : Nat} (h : s.length ≤ p) : runP f s p = p := by
  unfold runP
  rw [List.drop_of_length_le h]
  rfl
theorem runP_ge (f : UInt8 → Bool) (s : List UInt8) (p : Nat) : p ≤ runP f s p := Nat.le_add_right _ _
theorem runP_le {f : UInt8 → Bool} {s : List UInt8} {p : Nat} (h : p ≤ s.length) : runP f s p ≤ s.length := by
  have h1 := (List.takeWhile_sublist (p := f) (l := s.drop p)).length_le
  rw [List.length_drop] at h1
  unfold runP
  omega
/-- The row of bytes of a kind that stands here. -/
def rowP (f : UInt8 → Bool) (s : List UInt8) (p : Nat) : List UInt8 := (s.drop p).takeWhile f
theorem runP_eq (f : UInt8 → Bool) (s : List UInt8) (p : Nat) : runP f s p = p + (rowP f s p).length := rfl
theorem rowP_eq (f : UInt8 → Bool) (s : List UInt8) (p : Nat) : rowP f s p = (s.take (runP f s p)).drop p := by
  have h1 : rowP f s p <+: s.drop p := List.takeWhile_prefix f
  rw [List.drop_take, runP_eq, Nat.add_sub_cancel_left]
  exact List.prefix_iff_eq_take.1 h1
theorem rowP_app {f : UInt8 → Bool} {s pre t post : List UInt8} (hs : s = pre ++ (t ++ post)) (ht : ∀ c ∈ t, f c = true) (hp : ∀ c, post.head? = some c → f c = false) : rowP f s pre.length = t := by
  subst hs
  unfold rowP
  rw [List.drop_left, List.takeWhile_append_of_pos ht]
  cases post with
  | nil => simp
  | cons c r => rw [List.takeWhile_cons, if_neg (by rw [hp c rfl]; decide), List.append_nil]
/-! Decimal numerals. -/
def dgB (c : UInt8) : Bool := decide (48 ≤ c.toNat ∧ c.toNat ≤ 57)
def nmO (w : List UInt8) : Nat := w.foldl (fun n c => 10 * n + (c.toNat - 48)) 0
theorem nmO_append (w : List UInt8) (c : UInt8) : nmO (w ++ [c]) = 10 * nmO w + (c.toNat - 48) := by unfold nmO; rw [List.foldl_append]; rfl
theorem dgB_iff (c : UInt8) : dgB c = true ↔ 48 ≤ c.toNat ∧ c.toNat ≤ 57 := by unfold dgB; simp
theorem dec_all : ∀ (u : Nat), (∀ c ∈ Lib.decDigits u, dgB c = true) ∧ Lib.decDigits u ≠ [] ∧ (u < 10 → (Lib.decDigits u).length = 1) ∧ (0 < u → (Lib.decDigits u).head? ≠ some 48) ∧ nmO (Lib.decDigits u) = u := by
  intro u
  induction u using Nat.strongRecOn with
  | _ u ih =>
    have hd : ∀ d, d < 10 → (UInt8.ofNat (48 + d)).toNat = 48 + d := fun d hd => by rw [UInt8.toNat_ofNat']; omega
    by_cases h : u < 10
    · rw [Lib.decDigits, dif_pos h]
      refine ⟨fun c hc => ?_, by simp, fun _ => rfl, fun h0 e => ?_, ?_⟩
      · rw [List.mem_singleton.1 hc, dgB_iff, hd u h]; omega
      · simp only [List.head?_cons, Option.some.injEq] at e
        have := congrArg UInt8.toNat e
        rw [hd u h] at this
        have h48 : (48 : UInt8).toNat = 48 := rfl
        omega
      · show 10 * 0 + ((UInt8.ofNat (48 + u)).toNat - 48) = u
        rw [hd u h]; omega
    · obtain ⟨h1, h2, _, h4, h5⟩ := ih (u / 10) (by omega)
      rw [Lib.decDigits, dif_neg h]
      have hm := hd (u % 10) (by omega)
      refine ⟨fun c hc => ?_, by simp, fun h0 => absurd h0 h, fun h0 => ?_, ?_⟩
      · rcases List.mem_append.1 hc with hc | hc
        · exact h1 c hc
        · rw [List.mem_singleton.1 hc, dgB_iff, hm]; omega
      · obtain ⟨x, r, e⟩ := List.exists_cons_of_ne_nil h2
        have := h4 (by omega)
        rw [e] at this ⊢
        simpa using this
      · rw [nmO_append, h5, hm]; omega
theorem dec_inj {a b : Nat} (h : Lib.decDigits a = Lib.decDigits b) : a = b := by
  rw [← (dec_all a).2.2.2.2, ← (dec_all b).2.2.2.2, h]
theorem dec_pos (u : Nat) : 0 < (Lib.decDigits u).length := List.length_pos_iff.2 (dec_all u).2.1
theorem itoa_head (n : Int) : ∃ c r, Lib.itoa n = c :: r ∧ (c = 45 ∨ dgB c = true) ∧ ∀ x ∈ r, dgB x = true := by
  unfold Lib.itoa
  split
  · exact ⟨45, _, rfl, .inl rfl, (dec_all _).1⟩
  · obtain ⟨h1, h2, _⟩ := dec_all n.toNat
    obtain ⟨c, r, e⟩ := List.exists_cons_of_ne_nil h2
    exact ⟨c, r, e, .inr (h1 c (by rw [e]; exact .head _)), fun x hx => h1 x (by rw [e]; exact .tail _ hx)⟩
theorem itoa_inj {a b : Int} (h : Lib.itoa a = Lib.itoa b) : a = b := by
  have key : ∀ n : Nat, ∀ r, Lib.decDigits n ≠ 45 :: r := fun n r e => by
    have := (dec_all n).1 45 (by rw [e]; exact .head _)
    exact absurd this (by decide)
  unfold Lib.itoa at h
  split at h <;> split at h
  · have := dec_inj (List.cons.inj h).2; omega
  · exact absurd h.symm (key _ _)
  · exact absurd h (key _ _)
  · have := dec_inj h; omega
/-- Digits are read as the number that they tell, as long as it is small enough. -/
theorem parseM_dec (M : Nat) (hM : M ≤ 18446744073709551615) : ∀ (w : List UInt8) (acc : Nat), (∀ c ∈ w, dgB c = true) → w.foldl (fun n c => 10 * n + (c.toNat - 48)) acc ≤ M → Lib.parseUintM M acc w = .ok (w.foldl (fun n c => 10 * n + (c.toNat - 48)) acc)
  | [], acc, hd, hl => rfl
  | c :: w, acc, hd, hl => by
    have hc := (dgB_iff c).1 (hd c (.head _))
    rw [List.foldl_cons] at hl ⊢
    have mono : ∀ (w : List UInt8) (n : Nat), n ≤ w.foldl (fun n c => 10 * n + (c.toNat - 48)) n := fun w => by
      induction w with
      | nil => exact fun n => Nat.le_refl n
      | cons x w ih => exact fun n => Nat.le_trans (show n ≤ 10 * n + (x.toNat - 48) by omega) (ih _)
    have h1 := mono w (10 * acc + (c.toNat - 48))
    rw [Lib.parseUintM, if_pos hc, if_neg (by omega), if_neg (by omega), Nat.mul_comm acc 10]
    exact parseM_dec M hM w _ (fun x hx => hd x (.tail _ hx)) hl
theorem parseU_dec (u : Nat) (hu : u ≤ 18446744073709551615) : Lib.parseUintB 64 (Lib.decDigits u) = .ok u := by
  obtain ⟨h1, h2, _, _, h5⟩ := dec_all u
  unfold Lib.parseUintB
  rw [if_neg h2, parseM_dec (2 ^ 64 - 1) (by decide) _ 0 h1 (by rw [show List.foldl (fun n c => 10 * n + (c.toNat - 48)) 0 (Lib.decDigits u) = nmO (Lib.decDigits u) from rfl, h5]; exact hu)]
  exact congrArg Lib.NumEnd.ok h5
theorem parseM_lt (M : Nat) : ∀ (w : List UInt8) (acc u : Nat), acc ≤ M → Lib.parseUintM M acc w = .ok u → u ≤ M
  | [], acc, u, ha, h => by
    simp only [Lib.parseUintM] at h
    injection h with h
    omega
  | c :: w, acc, u, ha, h => by
    simp only [Lib.parseUintM] at h
    split at h
    · split at h
      · cases h
      · split at h
        · cases h
        · exact parseM_lt M w _ u (by omega) h
    · cases h
theorem parseU_lt {w : List UInt8} {u : Nat} (h : Lib.parseUintB 64 w = .ok u) : u ≤ 18446744073709551615 := by
  unfold Lib.parseUintB at h
  split at h
  · cases h
  · exact parseM_lt (2 ^ 64 - 1) w 0 u (by decide) h
theorem parseI_itoa (n : Int) (h1 : -9223372036854775808 ≤ n) (h2 : n < 9223372036854775808) : Lib.parseIntB 64 (Lib.itoa n) = .ok n := by
  unfold Lib.itoa
  split
  · rename_i hn
    unfold Lib.parseIntB
    simp only
    rw [if_pos (show (45 : UInt8).toNat = 43 ∨ (45 : UInt8).toNat = 45 from .inr rfl), parseU_dec _ (by omega)]
    simp only
    rw [if_neg (fun h => h.1 rfl), if_neg (by simp; omega), if_pos (show (45 : UInt8).toNat = 45 from rfl)]
    congr 1
    omega
  · rename_i hn
    obtain ⟨q1, q2, _⟩ := dec_all n.toNat
    obtain ⟨c, r, e⟩ := List.exists_cons_of_ne_nil q2
    have hc := (dgB_iff c).1 (q1 c (by rw [e]; exact .head _))
    rw [e]
    unfold Lib.parseIntB
    simp only
    rw [if_neg (by omega), ← e, parseU_dec _ (by omega)]
    simp only
    rw [if_neg (by simp; omega), if_neg (by omega), if_neg (by omega)]
    congr 1
    omega
theorem parseI_range {w : List UInt8} {n : Int} (h : Lib.parseIntB 64 w = .ok n) : -9223372036854775808 ≤ n ∧ n < 9223372036854775808 := by
  unfold Lib.parseIntB at h
  split at h
  · cases h
  · simp only at h
    split at h
    · cases h
    · cases h
    · rename_i u hu
      split at h
      · cases h
      · split at h
        · cases h
        · injection h with h
          rename_i q1 q2
          split at h <;> omega
theorem parse10_M : ∀ (w : List UInt8) (acc : Nat), Lib.parseUint10 acc w = Lib.parseUintM 18446744073709551615 acc w
  | [], acc => rfl
  | c :: w, acc => by
    rw [Lib.parseUint10, Lib.parseUintM]
    split
    · split
      · rfl
      · by_cases h : 18446744073709551616 ≤ acc * 10 + (c.toNat - 48)
        · rw [if_pos h, if_pos (by omega)]
        · rw [if_neg h, if_neg (by omega)]
          exact parse10_M w _
    · rfl
theorem atoi_parseI (w : List UInt8) : Lib.atoiAll w = Lib.parseIntB 64 w := by
  have hm : ∀ l, Lib.parseMag l = Lib.parseUintB 64 l := fun l => by
    unfold Lib.parseMag Lib.parseUintB
    split
    · rfl
    · exact parse10_M l 0
  unfold Lib.atoiAll Lib.parseIntB
  split
  · rfl
  · simp only [hm]
    rfl
end Go.Proofs.YtilejcofleeeiaaGreatDoor
namespace Go.Proofs.YtilejcofleeeiaaGreatDoor
open Go Go.K Go.RowKit Go.Sort
set_option maxRecDepth 100000
set_option linter.unusedVariables false
set_option linter.unusedSimpArgs false
set_option maxHeartbeats 6400000
/-- internal/strconv.FormatUint at base 10: a number's decimal numeral. -/
theorem formatUint_in (u : Nat) (hu64 : u < 18446744073709551616) (w : World) (htab : Lib.TabIs Tryz.prog w "internal/strconv.uint64pow10" .u64 Lib.pow10Tab) :
    Calls Tryz.prog 86 #[.int .u64 u, .int .i64 10] w fun e w' => e = .returned (.string ⟨(Lib.decDigits u).toArray⟩) ∧ ∃ k os, w' = grow (w.drewN k) os := by
  have mixed := mixed
  have t3 := Tryz.underlying3; have a3 := Tryz.isAgg3; have z3 := Tryz.sizeOf3; have v3 := Tryz.zeroValue3
  have t9 := Tryz.underlying9; have a9 := Tryz.isAgg9; have z9 := Tryz.sizeOf9; have v9 := Tryz.zeroValue9
  have t4 := Tryz.underlying4; have a4 := Tryz.isAgg4; have z4 := Tryz.sizeOf4; have v4 := Tryz.zeroValue4
  have t171 := Tryz.underlying156; have a171 := Tryz.isAgg156; have z171 := Tryz.sizeOf156; have v171 := Tryz.zeroValue156
  have t53 := Tryz.underlying80; have a53 := Tryz.isAgg80; have z53 := Tryz.sizeOf80; have v53 := Tryz.zeroValue80
  have t37 := Tryz.underlying54; have a37 := Tryz.isAgg54; have z37 := Tryz.sizeOf54; have v37 := Tryz.zeroValue54
  have t5 := Tryz.underlying5; have a5 := Tryz.isAgg5; have z5 := Tryz.sizeOf5; have v5 := Tryz.zeroValue5
  have e283 : ∀ args w, (callFunc 117 args).run Tryz.prog w = .ok (.enter 117 args) w := enters_of Tryz.func117 (by kernel_rfl) rfl
  have e284 : ∀ args w, (callFunc 118 args).run Tryz.prog w = .ok (.enter 118 args) w := enters_of Tryz.func118 (by kernel_rfl) rfl
  have e285 : ∀ args w, (callFunc 119 args).run Tryz.prog w = .ok (.enter 119 args) w := enters_of Tryz.func119 (by kernel_rfl) rfl
  by_cases hi : u < 100
  · have hi' : (u : Int) < 100 := by omega
    have hcv : IntKind.i64.wrap (u : Int) = u := by rw [show IntKind.i64.wrap (u : Int) = _ from IntKind.wrap_i64 _]; omega
    go_enter Tryz.func86, Tryz.ntmps86
    go_wp2_with (go_at_fn 117; refine (Any.internal_strconv_small { laysFmtI with } u hi _).mono ?_; rintro e w' ⟨rfl, rfl⟩)
    go_ret
    exact ⟨rfl, 0, #[], by simp [World.drewN_zero]⟩
  · have hi' : ¬ (u : Int) < 100 := by omega
    have hu1 : 1 ≤ u := by omega
    have hnd20 : Lib.nDigits u ≤ 20 := by have := Lib.numDigits_eq u hu1 hu64; split at this <;> omega
    have hal : Tryz.prog.arrayLen 156 = 24 := by simp [Program.arrayLen, t171]
    have hsl1 : ∀ W, (Instr.sliceAt 156 (.pointer (some ⟨w.heap.size, 0, none⟩)) none (some (.int .i64 (Lib.nDigits u : Int))) none).run Tryz.prog W = .ok (.slice (some ⟨w.heap.size, 0, none⟩) (Lib.nDigits u) 24) W := fun W => by
      rw [run_sliceAt_array_h W 156 ⟨w.heap.size, 0, none⟩ (by simp [Program.arrayLen, Program.elem, t171]) .i64 (Lib.nDigits u : Int) (by omega) (by rw [hal]; omega)]
      go_simp
    have hH0 := Lib.holds_zero0 w 156 (Lib.nDigits u) (by omega)
    have hfmt := Any.internal_strconv_formatBase10 { laysFmtI with } w.heap.size 0 24 u (Array.replicate (Lib.nDigits u) 0) (w.alloc (.cells Lib.zeros24 156)) hH0 (by rw [Array.size_replicate]; exact Lib.lt_pow_nDigits u) hu64 (by rw [Array.size_replicate]; omega)
    rw [Array.size_replicate] at hfmt
    have HH0 := Lib.hid hH0
    clear hH0 hal
    go_enter Tryz.func86, Tryz.ntmps86
    go_wp2_with (first
      | (go_at_fn 118; refine (Any.internal_strconv_numDigits { laysFmtI with } u hu1 hu64 _ (Lib.tabIs_alloc htab _)).mono ?_; rintro e w' ⟨rfl, rfl⟩))
    go_at_fn 119
    refine hfmt.mono ?_
    rintro e w' ⟨rfl, k, v', dk, rfl, hF⟩
    have hcv : (convert 54 9 (.slice (some ⟨w.heap.size, 0, none⟩) (Lib.nDigits u) 24)).run Tryz.prog ((putRow (fun (b : UInt8) => Value.int .u8 (b.toNat : Int)) (w.alloc (.cells Lib.zeros24 156)) w.heap.size 0 dk).drewN k) = .ok (.string ⟨(Lib.decDigits u).toArray⟩) ((putRow (fun (b : UInt8) => Value.int .u8 (b.toNat : Int)) (w.alloc (.cells Lib.zeros24 156)) w.heap.size 0 dk).drewN k) := by
      have h := run_convert_bytes_back (P := Tryz.prog) ((putRow (fun (b : UInt8) => Value.int .u8 (b.toNat : Int)) (w.alloc (.cells Lib.zeros24 156)) w.heap.size 0 dk).drewN k) 54 9 5 ⟨w.heap.size, 0, none⟩ 24 (Lib.decDigits u) t37 t5 t9 (fun j hj => by
        rw [Lib.row_is_numeral hF j hj, Lib.add_plain, World.cell?_drewN]
        exact cell?_putRow (fun (b : UInt8) => Value.int .u8 (b.toNat : Int)) _ w.heap.size 0 _ dk HH0.out (by rw [hF.size, Array.size_replicate]) j (by rw [hF.size]; rw [Lib.decDigits_length] at hj; exact hj))
      rw [Lib.decDigits_length] at h
      exact h
    go_wp2
    go_ret
    obtain ⟨os, eo⟩ := Lib.fin_at w (.cells Lib.zeros24 156) dk k 0
    exact ⟨rfl, k, os, eo⟩
/-- What the library's functions lean on: a table, two errors. -/
def LibV (w : World) : Prop := Lib.TabIs Tryz.prog w "internal/strconv.uint64pow10" .u64 Lib.pow10Tab ∧ (∀ g : Nat, g = 4 ∨ g = 5 → ∃ ev, w.cell? ⟨g, 0, none⟩ = some ev ∧ (ev = .nilIface ∨ ∃ te pe, ev = .iface te pe)) ∧ True
theorem cell_lt {w : World} {g : Nat} {v : Value} (h : w.cell? ⟨g, 0, none⟩ = some v) : g < w.heap.size := by
  rcases Nat.lt_or_ge g w.heap.size with h3 | h3
  · exact h3
  · exfalso
    simp only [World.cell?, Array.getElem?_eq_none h3] at h
    cases h
theorem LibV.mono {w w' : World} {L : Own} (h : LibV w) (hs : Sy w L w') (hn : ∀ p ∈ L, w.heap.size ≤ p.1) : LibV w' := by
  have hb := (hs.end hn).below
  have key : ∀ (g : Nat) (v : Value), w.cell? ⟨g, 0, none⟩ = some v → w'.cell? ⟨g, 0, none⟩ = some v := fun g v hv => by
    rw [← hv]
    simp only [World.cell?, hb.block g (cell_lt hv)]
  refine ⟨Lib.tabBelow_of_tabIs h.1 w' hb, fun g hg => ?_, ?_⟩
  · obtain ⟨ev, h1, h2⟩ := h.2.1 g hg
    exact ⟨ev, key g ev h1, h2⟩
  · trivial
theorem sy_grow (w : World) (k : Nat) (os : Array Obj) : Sy w [] (Go.Sort.grow (w.drewN k) os) := by
  refine ⟨rfl, rfl, rfl, ?_, by simp, by simp, fun j hj _ => ?_⟩
  · show w.heap.size ≤ (w.heap ++ os).size
    rw [Array.size_append]; omega
  · show (w.heap ++ os)[j]? = w.heap[j]?
    rw [Array.getElem?_append_left hj]
theorem sy_drewN (w : World) (k : Nat) : Sy w [] (w.drewN k) := ⟨rfl, rfl, rfl, Nat.le_refl _, by simp, by simp, fun _ _ _ => rfl⟩
theorem formatUint_walk (w : World) (hl : LibV w) (u : Nat) (hu : u < 18446744073709551616) : Calls Tryz.prog 48 #[.int .u64 u, i64 10] w (Rets w (Is (str (Lib.decDigits u)))) := by
  refine enterT (args := [.int .u64 u, i64 10]) Tryz.func48 rfl Tryz.ntmps48 (congrArg Array.toList Tryz.results48) (by kernel_rfl) (by simp) (Sy.refl w) ?_
  simp (disch := omega) only [push_cast, Nat.reduceEqDiff]
  refine callV en_86 (callX_is (fun w' hw' => (formatUint_in u hu w' (hl.mono hw' (by simp)).1).mono fun e w2 ⟨he, k, os, ew⟩ => ⟨_, he, by rw [ew]; exact sy_grow w' k os, rfl⟩) ?_)
  simp (disch := omega) only [push_cast, Nat.reduceEqDiff]
  exact finIs (by simp) rfl
theorem formatInt_walk (w : World) (hl : LibV w) (n : Int) (h0 : -9223372036854775808 ≤ n) (h1 : n < 9223372036854775808) : Calls Tryz.prog 54 #[i64 n, i64 10] w (Rets w (Is (str (Lib.itoa n)))) := by
  refine (Any.strconv_FormatInt_10 laysFmtI n h0 (by omega) w hl.1).mono ?_
  rintro e w' ⟨rfl, k, os, rfl⟩
  exact ⟨_, rfl, sy_grow w k os, rfl⟩
theorem itoa_walk (w : World) (hl : LibV w) (n : Int) (h0 : -9223372036854775808 ≤ n) (h1 : n < 9223372036854775808) : Calls Tryz.prog 87 #[i64 n] w (Rets w (Is (str (Lib.itoa n)))) := by
  refine (Any.strconv_Itoa laysItoa n h0 (by omega) w hl.1).mono ?_
  rintro e w' ⟨rfl, k, os, rfl⟩
  exact ⟨_, rfl, sy_grow w k os, rfl⟩
theorem formatBool_walk (w : World) (b : Bool) : Calls Tryz.prog 47 #[.bool b] w (Rets w (Is (str (Lib.formatBool b)))) := by
  refine (Any.strconv_FormatBool laysFmtB b w).mono ?_
  rintro e w' ⟨rfl, rfl⟩
  exact ⟨_, rfl, Sy.refl _, rfl⟩
end Go.Proofs.YtilejcofleeeiaaGreatDoor
