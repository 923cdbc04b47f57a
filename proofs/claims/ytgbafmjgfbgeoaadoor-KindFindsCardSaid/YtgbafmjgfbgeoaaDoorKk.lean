/- YtgbafmjgfbgeoaaDoor: the walk calculus, part Kk: proved rules by which the walks of this seat are made. -/
import Derived.Test.YtgbafmjgfbgeoaaDoorKj

namespace Go.K
open Go
set_option linter.unusedVariables false
set_option linter.unusedSimpArgs false

variable {wb : World} {L : Own} {P : Program}

/-- What a callee has made new is owned beside what was owned. -/
theorem Sy.add {w w' : World} {M : Own} (h : Sy wb L w) (h' : Sy w M w') (hM : ∀ p ∈ M, w.heap.size ≤ p.1) : Sy wb (M ++ L) w' := by
  refine ⟨h'.os.trans h.os, h'.tape.trans h.tape, h'.output.trans h.output, Nat.le_trans h.size h'.size, fun b o hm => ?_, ?_, fun k hk hn => ?_⟩
  · rcases List.mem_append.1 hm with hm | hm
    · exact h'.own b o hm
    · rw [h'.rest b (h.lt hm) (fun hm' => by obtain ⟨p, hp, e⟩ := List.mem_map.1 hm'; have := hM p hp; have := h.lt hm; omega)]
      exact h.own b o hm
  · rw [List.map_append, List.nodup_append]
    refine ⟨h'.nodup, h.nodup, fun a ha b hb e => ?_⟩
    subst e
    obtain ⟨p, hp, e1⟩ := List.mem_map.1 ha
    obtain ⟨q, hq, e2⟩ := List.mem_map.1 hb
    have h1 := hM p hp
    have h2 := h.lt hq
    omega
  · simp only [List.map_append, List.mem_append, not_or] at hn
    rw [h'.rest k (by have := h.size; omega) hn.1]
    exact h.rest k hk hn.2
/-- What a function tells that makes new blocks. -/
def RetsN (w : World) (S : Value → Own → Prop) (e : Ending) (w' : World) : Prop := ∃ v M, e = .returned v ∧ Sy w M w' ∧ (∀ p ∈ M, w.heap.size ≤ p.1) ∧ S v M
theorem callX_new {f : FuncId} {args : Array Value} {S : Value → Own → Prop} {K : Value → World → Own → Prop} {Kp : KP} (h : ∀ w, Sy wb L w → Calls P f args w (RetsN w S))
    (hk : ∀ v M, (∀ p ∈ M, wb.heap.size ≤ p.1) → (∀ p ∈ M, p.1 ∉ L.map (·.1)) → S v M → K v wb (M ++ L)) : CallX P f args wb L (tag K) (tag Kp) := fun w hw =>
  (h w hw).mono fun e w' ⟨v, M, he, hs, hM, hS⟩ => by
    subst he
    refine ⟨wb, M ++ L, hw.add hs hM, hk v M (fun p hp => Nat.le_trans hw.size (hM p hp)) (fun p hp hm => ?_) hS⟩
    obtain ⟨q, hq, e⟩ := List.mem_map.1 hm
    have h1 := hM p hp
    have h2 := hw.lt hq
    omega
/-- A function's contract out of its walk, over whatever base. -/
theorem enterB {f : FuncId} {fn : Func} {code : Code} {args : List Value} {w : World} {R : Ending → World → Prop} (hf : P.funcs[f]? = some fn) (hb : fn.body = some code) {rs : List ResultVar} {n : Nat} (hn : fn.ntmps = n) (hrs : fn.results.toList = rs) (hok : okCode n code = true) (hsz : args.length ≤ n)
    (hL : Sy wb L w) (h : VT ⟨P, n, none⟩ (tag code) (tag (retP P rs (tag R))) wb (env0 args) [] L) : Calls P f args.toArray w R := by
  subst hn
  refine calls_of_wp hf hb ((wpIn_wide (n := 0)).1 (wpIn_mono (V_sound (c := ⟨P, fn.ntmps, none⟩) code _ wb _ [] L hok h { tmps := args.toArray ++ Array.replicate (fn.ntmps - args.toArray.size) undef, defers := [] } w (rep0 hsz) hL) ?_))
  rintro x a w' ⟨wb', e', ds', L', hr', hw', hq⟩
  cases x with
  | normal =>
    obtain ⟨hd, hq⟩ := hq
    obtain ⟨vs, hk, hrun⟩ := results_run hr' hw' (by rw [hrs]; exact hq)
    exact ⟨hr'.defers.trans hd, _, hrun, hk w' hw'⟩
  | ret =>
    obtain ⟨hd, hq⟩ := hq
    obtain ⟨vs, hk, hrun⟩ := results_run hr' hw' (by rw [hrs]; exact hq)
    exact ⟨hr'.defers.trans hd, _, hrun, hk w' hw'⟩
  | panic ch => exact ⟨hr'.defers.trans hq.1, hq.2 w' hw'⟩
  | exit id => exact hq.elim
  | goto l => exact hq.elim
  | outgrown => exact hq.elim

/-- A call told over the base of the walk itself. -/
theorem callX_base {f : FuncId} {args : Array Value} {R : Ending → World → Prop} {K : Value → World → Own → Prop} {Kp : KP} (h : ∀ w, Sy wb L w → Calls P f args w R)
    (hk : ∀ e w', R e w' → ∃ v L', e = .returned v ∧ Sy wb L' w' ∧ K v wb L') : CallX P f args wb L (tag K) (tag Kp) := fun w hw =>
  (h w hw).mono fun e w' hR => by
    obtain ⟨v, L', rfl, h1, h2⟩ := hk e w' hR
    exact ⟨wb, L', h1, h2⟩

/-! ### The fields of a tree in their order -/
structure FNode where
  path : List Nat
  ah : List Fld
  f : Fld
  ind : Bool
/-- So deep; the way ahead; within a dictionary or not. -/
def nd : Nat → List Nat → Bool → List Fld → List FNode
  | 0, _, _, _ => []
  | d + 1, path, ind, l => l.zipIdx.flatMap fun p => ⟨path ++ [p.2], l.take p.2, p.1, ind⟩ :: nd d (path ++ [p.2]) (ind || p.1.k == 19) p.1.sub
def ndAt (d : Nat) (path : List Nat) (ind : Bool) (l : List Fld) (i : Nat) : List FNode := (l.zipIdx.take i).flatMap fun p => ⟨path ++ [p.2], l.take p.2, p.1, ind⟩ :: nd d (path ++ [p.2]) (ind || p.1.k == 19) p.1.sub
theorem ndAt_zero (d : Nat) (path : List Nat) (ind : Bool) (l : List Fld) : ndAt d path ind l 0 = [] := by simp [ndAt]
theorem ndAt_all (d : Nat) (path : List Nat) (ind : Bool) (l : List Fld) (i : Nat) (hi : l.length ≤ i) : ndAt d path ind l i = nd (d + 1) path ind l := by
  simp only [ndAt, nd]
  rw [List.take_of_length_le (by simpa using hi)]
theorem ndAt_succ (d : Nat) (path : List Nat) (ind : Bool) (l : List Fld) (i : Nat) (f : Fld) (hf : l[i]? = some f) :
    ndAt d path ind l (i + 1) = ndAt d path ind l i ++ (⟨path ++ [i], l.take i, f, ind⟩ :: nd d (path ++ [i]) (ind || f.k == 19) f.sub) := by
  have hz : l.zipIdx[i]? = some (f, i) := by simp [hf]
  simp only [ndAt, List.take_add_one, hz, List.flatMap_append, Option.toList_some, List.flatMap_cons, List.flatMap_nil, List.append_nil]
theorem nd_prefix (d : Nat) (path : List Nat) (ind : Bool) (l : List Fld) (i : Nat) : ndAt d path ind l i <+: nd (d + 1) path ind l := by
  simp only [ndAt, nd]
  obtain ⟨t, ht⟩ := List.take_prefix i l.zipIdx
  exact ⟨t.flatMap _, by rw [← List.flatMap_append, ht]⟩
end Go.K
