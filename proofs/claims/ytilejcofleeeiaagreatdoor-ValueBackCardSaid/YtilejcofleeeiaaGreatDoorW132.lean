/- YtilejcofleeeiaaGreatDoor: walks, part 131: rows of values, each in its own memory; a value's lists lie in such rows. -/
import Derived.Test.YtilejcofleeeiaaGreatDoorW106
import Derived.Test.YtilejcofleeeiaaGreatDoorKn
import Derived.Test.YtilejcofleeeiaaGreatDoorKp
namespace Go.Proofs.YtilejcofleeeiaaGreatDoor
open Go Go.K
set_option maxRecDepth 100000
set_option linter.unusedVariables false
set_option linter.unusedSimpArgs false
set_option maxHeartbeats 4000000
theorem stab_mem {wb : World} {L Lq : Own} (hm : ∀ p ∈ Lq, p ∈ L) (hnd : (Lq.map (·.1)).Nodup) (hL : ∀ p ∈ L, wb.heap.size ≤ p.1) : Stab wb L Lq := fun w h =>
  ⟨h.os, h.tape, h.output, h.size, fun b o hp => h.own b o (hm _ hp), hnd, fun k hk _ => h.rest k hk fun hx => by
    obtain ⟨p, hp, rfl⟩ := List.mem_map.1 hx
    have := hL p hp
    omega⟩
/-- A row of values: its block, or nil; how many, its room, its cells. -/
structure Rw where
  b : Option Nat
  n : Nat
  c : Nat
  cs : List Value
def Rw.OK (x : Rw) : Prop := (x.b = none ∧ x.n = 0 ∧ x.c = 0) ∨ (x.b ≠ none ∧ x.n ≤ x.c ∧ x.c ≤ maxLen ∧ x.cs.length = x.c * 4)
def Rw.own (x : Rw) : Own := match x.b with | none => [] | some b => [(b, Obj.cells x.cs.toArray 29 (0, 0))]
def Rw.at_ (x : Rw) : Option Addr := x.b.map fun b => ⟨b, 0, none⟩
def Rw.way (x : Rw) : Value := .slice x.at_ x.n x.c
def ownR (l : List Rw) : Own := l.flatMap Rw.own
theorem ownR_append (a b : List Rw) : ownR (a ++ b) = ownR a ++ ownR b := by simp [ownR]
theorem ownR_cons (x : Rw) (l : List Rw) : ownR (x :: l) = x.own ++ ownR l := by simp [ownR]
theorem ownR_one (x : Rw) : ownR [x] = x.own := by simp [ownR]
theorem RowO.rw {wb : World} {R : Own} {v : Value} {n : Nat} {xs : List Value} (h : RowO wb 29 4 R [] v n xs) : ∃ x : Rw, x.OK ∧ x.n = n ∧ v = x.way ∧ R = x.own ∧ x.cs.take (x.n * 4) = xs ∧ ∀ p ∈ x.own, wb.heap.size ≤ p.1 := by
  obtain ⟨h0, ⟨rfl, rfl, rfl⟩ | ⟨b, c, cs, rfl, rfl, h1, h2, h3, h4, h5⟩⟩ := h
  · exact ⟨⟨none, 0, 0, []⟩, .inl ⟨rfl, rfl, rfl⟩, rfl, rfl, rfl, (List.eq_nil_of_length_eq_zero (by omega)).symm, fun p hp => by simp [Rw.own] at hp⟩
  · exact ⟨⟨some b, n, c, cs⟩, .inr ⟨by simp, h2, h3, h4⟩, rfl, rfl, rfl, h5, fun p hp => by
      simp only [Rw.own, List.mem_singleton] at hp
      rw [hp]; exact h1⟩
theorem Rw.row {wb : World} {x : Rw} (h : x.OK) (hn : ∀ p ∈ x.own, wb.heap.size ≤ p.1) : RowO wb 29 4 x.own [] x.way x.n (x.cs.take (x.n * 4)) := by
  obtain ⟨b, n, c, cs⟩ := x
  rcases h with ⟨h1, h2, h3⟩ | ⟨h1, h2, h3, h4⟩
  · simp only at h1 h2 h3
    subst h1; subst h2; subst h3
    exact ⟨by simp, .inl ⟨rfl, rfl, rfl⟩⟩
  · simp only at h1 h2 h3 h4
    cases b with
    | none => exact absurd rfl h1
    | some b =>
      refine ⟨?_, .inr ⟨b, c, cs, rfl, rfl, hn _ (.head _), h2, h3, h4, rfl⟩⟩
      simp only [List.length_take]
      have := Nat.mul_le_mul_right 4 h2
      omega
mutual
/-- The lists of a value lie in these rows: its own, then those of its items. -/
def ZeV : Vl → List Rw → Option Addr → Nat → Prop
  | .mk _ num tx ls, its, a, c => tx.length ≤ 9223372036854775807 ∧ (-9223372036854775808 ≤ num ∧ num < 9223372036854775808) ∧ ∃ (x : Rw) (its' : List Rw), its = x :: its' ∧ x.OK ∧ x.n = ls.length ∧ x.c = c ∧ a = x.at_ ∧ ZeK ls its' (x.cs.take (x.n * 4))
def ZeK : List Vl → List Rw → List Value → Prop
  | [], its, cs => its = [] ∧ cs = []
  | v :: l, its, cs => ∃ (its1 its2 : List Rw) (a : Option Addr) (c : Nat) (cs' : List Value), its = its1 ++ its2 ∧ cs = v.cells a c ++ cs' ∧ ZeV v its1 a c ∧ ZeK l its2 cs'
end
theorem ZeV_iff (v : Vl) (its : List Rw) (a : Option Addr) (c : Nat) : ZeV v its a c ↔ v.tx.length ≤ 9223372036854775807 ∧ (-9223372036854775808 ≤ v.num ∧ v.num < 9223372036854775808) ∧ ∃ (x : Rw) (its' : List Rw), its = x :: its' ∧ x.OK ∧ x.n = v.ls.length ∧ x.c = c ∧ a = x.at_ ∧ ZeK v.ls its' (x.cs.take (x.n * 4)) := by
  cases v; rw [ZeV]; rfl
mutual
theorem ZeV.tr : ∀ (v : Vl) {its : List Rw} {a : Option Addr} {c : Nat}, ZeV v its a c → TrV v (ownR its) a c
  | .mk nu num tx ls, its, a, c, h => by
    rw [ZeV] at h
    obtain ⟨h1, h2, x, its', rfl, h3, h4, rfl, rfl, h5⟩ := h
    have hk := ZeK.tr ls h5
    obtain ⟨b, n, c, cs⟩ := x
    simp only at h4 hk
    rw [TrV]
    rcases h3 with ⟨q1, q2, q3⟩ | ⟨q1, q2, q3, q4⟩
    · simp only at q1 q2 q3
      subst q1; subst q2; subst q3
      have : ls = [] := List.eq_nil_of_length_eq_zero h4.symm
      subst this
      exact ⟨h1, h2, by simp, by simp, .inl rfl⟩
    · simp only at q1 q2 q3 q4
      cases b with
      | none => exact absurd rfl q1
      | some b =>
        refine ⟨h1, h2, by simp only; omega, by simp only [maxLen] at q3; simp only; omega, .inr ⟨b, cs.take (n * 4), cs.drop (n * 4), ownR its', rfl, ?_, hk⟩⟩
        rw [List.take_append_drop, ownR_cons]
        rfl
theorem ZeK.tr : ∀ (ls : List Vl) {its : List Rw} {cs : List Value}, ZeK ls its cs → TrK ls (ownR its) cs
  | [], its, cs, h => by
    rw [ZeK] at h
    obtain ⟨rfl, rfl⟩ := h
    rw [TrK]
    exact ⟨rfl, rfl⟩
  | v :: l, its, cs, h => by
    rw [ZeK] at h
    obtain ⟨its1, its2, a, c, cs', rfl, rfl, h1, h2⟩ := h
    rw [TrK]
    exact ⟨ownR its1, ownR its2, a, c, cs', ownR_append _ _, rfl, ZeV.tr v h1, ZeK.tr l h2⟩
end
theorem ZeK.append {m : List Vl} {is2 : List Rw} {ds : List Value} (hd : ZeK m is2 ds) : ∀ {l : List Vl} {is1 : List Rw} {cs : List Value}, ZeK l is1 cs → ZeK (l ++ m) (is1 ++ is2) (cs ++ ds)
  | [], is1, cs, h => by rw [ZeK] at h; obtain ⟨rfl, rfl⟩ := h; exact hd
  | v :: l, is1, cs, h => by
    rw [ZeK] at h
    obtain ⟨A, B, a, c, cs', rfl, rfl, h1, h2⟩ := h
    rw [List.cons_append, ZeK]
    exact ⟨A, B ++ is2, a, c, cs' ++ ds, by rw [List.append_assoc], by rw [List.append_assoc], h1, ZeK.append hd h2⟩
theorem ZeK.single {v : Vl} {its : List Rw} {a : Option Addr} {c : Nat} (h : ZeV v its a c) : ZeK [v] its (v.cells a c) := by
  rw [ZeK]
  exact ⟨its, [], a, c, [], by simp, by simp, h, by rw [ZeK]; exact ⟨rfl, rfl⟩⟩
theorem ZeK.nil : ZeK [] [] [] := by rw [ZeK]; exact ⟨rfl, rfl⟩
/-- A value that is being built: its list. -/
def oVl (b : Nat) (sl : Value) : Nat × Obj := (b, Obj.cells #[.bool false, i64 0, str [], sl] 29 (0, 0))
/-- The ways of one append of a value to a value's list: nothing done; the value there; a row of it; the longer row; it is told. -/
def ZaS (w : World) (base : Own) (x : Rw) (its : List Rw) (b4 : Nat) (v : Vl) (e6 e7 e8 : Value) (L : Own) : Nat → Prop
  | 0 => L = x.own ++ (ownR its ++ oVl b4 x.way :: base)
  | 1 => ∃ (its2 : List Rw) (a2 : Option Addr) (c2 : Nat), ZeV v its2 a2 c2 ∧ (∀ p ∈ ownR its2, w.heap.size ≤ p.1) ∧ e6 = .agg (v.cells a2 c2).toArray ∧ L = ownR its2 ++ (x.own ++ (ownR its ++ oVl b4 x.way :: base))
  | 2 => ∃ (its2 : List Rw) (a2 : Option Addr) (c2 : Nat) (b7 : Nat), ZeV v its2 a2 c2 ∧ (∀ p ∈ ownR its2, w.heap.size ≤ p.1) ∧ w.heap.size ≤ b7 ∧ e7 = .slice (some ⟨b7, 0, none⟩) 1 1 ∧ L = (b7, Obj.cells (v.cells a2 c2).toArray 29 (0, 0)) :: (ownR its2 ++ (x.own ++ (ownR its ++ oVl b4 x.way :: base)))
  | 3 => ∃ (its2 : List Rw) (a2 : Option Addr) (c2 : Nat) (x' : Rw), ZeV v its2 a2 c2 ∧ (∀ p ∈ ownR its2, w.heap.size ≤ p.1) ∧ x'.OK ∧ x'.n = x.n + 1 ∧ x'.cs.take (x'.n * 4) = x.cs.take (x.n * 4) ++ v.cells a2 c2 ∧ (∀ p ∈ x'.own, w.heap.size ≤ p.1) ∧ e8 = x'.way ∧ L = oVl b4 x.way :: (x'.own ++ (ownR its ++ (ownR its2 ++ base)))
  | _ => ∃ (its2 : List Rw) (a2 : Option Addr) (c2 : Nat) (x' : Rw), ZeV v its2 a2 c2 ∧ (∀ p ∈ ownR its2, w.heap.size ≤ p.1) ∧ x'.OK ∧ x'.n = x.n + 1 ∧ x'.cs.take (x'.n * 4) = x.cs.take (x.n * 4) ++ v.cells a2 c2 ∧ (∀ p ∈ x'.own, w.heap.size ≤ p.1) ∧ L = oVl b4 x'.way :: (x'.own ++ (ownR its ++ (ownR its2 ++ base)))
theorem ZaS.base_mem {w : World} {base : Own} {x : Rw} {its : List Rw} {b4 : Nat} {v : Vl} {e6 e7 e8 : Value} {L : Own} : ∀ {s : Nat}, ZaS w base x its b4 v e6 e7 e8 L s → ∀ p ∈ base, p ∈ L
  | 0, h, p, hp => by rw [show L = _ from h]; simp [hp]
  | 1, h, p, hp => by obtain ⟨_, _, _, _, _, _, rfl⟩ := h; simp [hp]
  | 2, h, p, hp => by obtain ⟨_, _, _, _, _, _, _, _, rfl⟩ := h; simp [hp]
  | 3, h, p, hp => by obtain ⟨_, _, _, _, _, _, _, _, _, _, _, rfl⟩ := h; simp [hp]
  | _ + 4, h, p, hp => by obtain ⟨_, _, _, _, _, _, _, _, _, _, rfl⟩ := h; simp [hp]
theorem ZaS.v_mem {w : World} {base : Own} {x : Rw} {its : List Rw} {b4 : Nat} {v : Vl} {e6 e7 e8 : Value} {L : Own} : ∀ {s : Nat}, s ≤ 3 → ZaS w base x its b4 v e6 e7 e8 L s → oVl b4 x.way ∈ L
  | 0, _, h => by rw [show L = _ from h]; simp
  | 1, _, h => by obtain ⟨_, _, _, _, _, _, rfl⟩ := h; simp
  | 2, _, h => by obtain ⟨_, _, _, _, _, _, _, _, rfl⟩ := h; simp
  | 3, _, h => by obtain ⟨_, _, _, _, _, _, _, _, _, _, _, rfl⟩ := h; simp
  | _ + 4, hs, _ => by omega
theorem ZaS.new {w : World} {base : Own} {x : Rw} {its : List Rw} {b4 : Nat} {v : Vl} {e6 e7 e8 : Value} {L : Own} (hb : ∀ p ∈ base, w.heap.size ≤ p.1) (hx : ∀ p ∈ x.own, w.heap.size ≤ p.1) (hi : ∀ p ∈ ownR its, w.heap.size ≤ p.1) (h4 : w.heap.size ≤ b4) : ∀ {s : Nat}, ZaS w base x its b4 v e6 e7 e8 L s → ∀ p ∈ L, w.heap.size ≤ p.1 := by
  have hv : ∀ sl : Value, w.heap.size ≤ (oVl b4 sl).1 := fun _ => h4
  intro s h p hp
  match s, h with
  | 0, h =>
    rw [show L = _ from h] at hp
    simp only [List.mem_append, List.mem_cons] at hp
    rcases hp with hp | hp | rfl | hp
    · exact hx p hp
    · exact hi p hp
    · exact h4
    · exact hb p hp
  | 1, h =>
    obtain ⟨_, _, _, _, h2, _, rfl⟩ := h
    simp only [List.mem_append, List.mem_cons] at hp
    rcases hp with hp | hp | hp | rfl | hp
    · exact h2 p hp
    · exact hx p hp
    · exact hi p hp
    · exact h4
    · exact hb p hp
  | 2, h =>
    obtain ⟨_, _, _, _, _, h2, h7, _, rfl⟩ := h
    simp only [List.mem_append, List.mem_cons] at hp
    rcases hp with rfl | hp | hp | hp | rfl | hp
    · exact h7
    · exact h2 p hp
    · exact hx p hp
    · exact hi p hp
    · exact h4
    · exact hb p hp
  | 3, h =>
    obtain ⟨_, _, _, _, _, h2, _, _, _, hx', _, rfl⟩ := h
    simp only [List.mem_append, List.mem_cons] at hp
    rcases hp with rfl | hp | hp | hp | hp
    · exact h4
    · exact hx' p hp
    · exact hi p hp
    · exact h2 p hp
    · exact hb p hp
  | _ + 4, h =>
    obtain ⟨_, _, _, _, _, h2, _, _, _, hx', rfl⟩ := h
    simp only [List.mem_append, List.mem_cons] at hp
    rcases hp with rfl | hp | hp | hp | hp
    · exact h4
    · exact hx' p hp
    · exact hi p hp
    · exact h2 p hp
    · exact hb p hp
theorem Rw.n_le {x : Rw} (h : x.OK) : x.n ≤ maxLen := by
  rcases h with ⟨_, h, _⟩ | ⟨_, h1, h2, _⟩
  · rw [h]; exact Nat.zero_le _
  · exact Nat.le_trans h1 h2
/-- The append of the built row. -/
theorem ZaS.app {w : World} {base : Own} {x : Rw} {its : List Rw} {b4 : Nat} {v : Vl} {e6 e7 e8 : Value} {L : Own} {K : Value → World → Own → Prop} {ty : TypeId} (h : ZaS w base x its b4 v e6 e7 e8 L 2) (hx : x.OK) (hxn : ∀ p ∈ x.own, w.heap.size ≤ p.1) (hsm : x.n + 1 ≤ 1000000)
    (hK : ∀ (x' : Rw) (L' L'' : Own), (∀ w', Sy w L' w' → Sy w L'' w') → ZaS w base x its b4 v e6 e7 x'.way L'' 3 → K x'.way w L') : ValX Tryz.prog (Builtin.append_ #[27, 27] ty #[x.way, e7]) w L (tag K) := by
  obtain ⟨its2, a2, c2, b7, hv, hi2, h7, rfl, rfl⟩ := h
  have hcl : (v.cells a2 c2).length = 1 * 4 := rfl
  refine valX_weak (L' := x.own ++ ((b7, Obj.cells (v.cells a2 c2).toArray 29 (0, 0)) :: (ownR its2 ++ (ownR its ++ oVl b4 x.way :: base)))) (fun w hw => hw.perm ?_) (appendI un_27 infoVal rfl (m := 1) (news := v.cells a2 c2) (RowO.frame (Rw.row hx hxn)) hcl (CanRead.of_own (e := 29) (b := b7) (cs := v.cells a2 c2) (n := 4) (List.mem_append_right _ (.head _)) rfl rfl) (by simp [Vl.cells, Value.oneCell']) (by simp only [maxLen]; omega) (by omega) (fun v' L' hr' _ => ?_))
  · exact ((List.perm_append_comm_assoc (ownR its2) x.own _).cons _).trans List.perm_middle.symm
  obtain ⟨R', rfl, hR'⟩ := RowO.unframe hr'
  obtain ⟨x', q1, q2, rfl, rfl, q3, q4⟩ := RowO.rw hR'
  refine hK x' _ (oVl b4 x.way :: (x'.own ++ (ownR its ++ (ownR its2 ++ base)))) (fun w' hw => ?_) ⟨its2, a2, c2, x', hv, hi2, q1, q2, q3, q4, rfl, rfl⟩
  have h1 := hw.mid x'.own [_] (C := ownR its2 ++ (ownR its ++ oVl b4 x.way :: base)) (fun p hp => by rw [List.mem_singleton.1 hp]; exact h7)
  refine h1.perm ?_
  refine (List.Perm.append_left x'.own ((List.Perm.append_left (ownR its2) List.perm_middle).trans (List.perm_middle.trans ((List.perm_append_comm_assoc (ownR its2) (ownR its) base).cons _)))).trans List.perm_middle
end Go.Proofs.YtilejcofleeeiaaGreatDoor
/- YtilejcofleeeiaaGreatDoor: walks, part 132: the append of a value to a value's list, its steps in any order. -/
namespace Go.Proofs.YtilejcofleeeiaaGreatDoor
open Go Go.K
set_option maxRecDepth 100000
set_option linter.unusedVariables false
set_option linter.unusedSimpArgs false
set_option maxHeartbeats 4000000
theorem infoByteZ : (Tryz.prog.info? 5).map (fun i => (i.zero, i.size, i.bytes)) = some (some (.int .u8 0), 1, 1) := by kernel_rfl
theorem made_bytes (n : Nat) : (madeCells (Value.int .u8 0).cells (n * 1)).toList = bytesV (List.replicate n 0) := by
  apply List.ext_getElem
  · simp [madeCells, bytesV]
  · intro i h1 h2
    have h0 : (Value.int .u8 0).cells = #[Value.int .u8 0] := rfl
    simp [madeCells, bytesV, h0, Nat.mod_one]
/-- make([]byte, n): zeros. -/
theorem makeBytesX {wb : World} {L : Own} {t : TypeId} {n : Nat} {K : Value → World → Own → Prop} (ht : Tryz.prog.underlying t = some (.slice 5)) (hn : n ≤ 1000000) {m : Int} (hm : m = (n : Int))
    (h : ∀ v L', RowO wb 5 1 L' L v n (bytesV (List.replicate n 0)) → K v wb L') : ValX Tryz.prog (Instr.makeSlice t (i64 m) (i64 m)) wb L (tag K) := by
  subst hm
  obtain ⟨inf, hinf, h1, h2, h3⟩ : ∃ inf, (Tryz.prog.info? 5) = some inf ∧ inf.zero = some (.int .u8 0) ∧ inf.size = 1 ∧ inf.bytes = 1 := by
    have hi := infoByteZ
    cases hh : Tryz.prog.info? 5 with
    | none => rw [hh] at hi; cases hi
    | some inf => rw [hh] at hi; simp at hi; exact ⟨inf, rfl, hi.1, hi.2.1, hi.2.2⟩
  refine valX_new (f := fun b => .slice (some ⟨b, 0, none⟩) n n) (o := .cells (Array.mk (madeCells (Value.int .u8 0).cells (n * inf.size)).toList) 5 (0, 0)) (fun w => ?_) (newI fun b hb' hn' => ?_)
  · have := run_make (P := Tryz.prog) w t 5 inf (.int .u8 0) ht hinf h1 .i64 .i64 (n : Int) (n : Int) (by omega) (by omega) (by rw [h3]; omega) (by omega)
    simpa using this
  · rw [h2, made_bytes]
    refine h _ _ ⟨by simp [bytesV], .inr ⟨b, n, bytesV (List.replicate n 0), rfl, rfl, hb', Nat.le_refl _, by simp only [maxLen]; omega, by simp [bytesV], by simp [bytesV]⟩⟩
structure ZaR (w : World) (base : Own) (x : Rw) (its : List Rw) (b4 : Nat) (v : Vl) (E0 : Env → Prop) (t1 t6 t7 t8 tS n1 n6 n7 n8 n9 n10 : Nat) (D : Nat → Bool) (e : Env) (ds : List Deferred) (L : Own) : Prop where
  hds : ds = []
  he : E0 e
  d1 : D n1 = true → e t1 = x.way
  dc : (D n10 = true → D n8 = true) ∧ (D n8 = true → D n7 = true ∧ D n1 = true) ∧ (D n7 = true → D n6 = true)
  o : ZaS w base x its b4 v (e t6) (e t7) (e t8) L (if D n10 = true then 4 else if D n8 = true then 3 else if D n7 = true then 2 else if D n6 = true then 1 else 0)
  d9 : D n9 = true → e tS = .pointer (some ⟨b4, 3, none⟩)
section
variable {w : World} {base : Own} {x : Rw} {its : List Rw} {b4 : Nat} {v : Vl} {E0 : Env → Prop} {t1 t6 t7 t8 tS n1 n6 n7 n8 n9 n10 : Nat} {D : Nat → Bool} {e : Env} {ds : List Deferred} {L : Own}
theorem ZaR.v_mem (h : ZaR w base x its b4 v E0 t1 t6 t7 t8 tS n1 n6 n7 n8 n9 n10 D e ds L) (hD : D n10 = false) : oVl b4 x.way ∈ L := by
  refine ZaS.v_mem ?_ h.o
  rw [if_neg (by rw [hD]; simp)]
  split
  · omega
  split
  · omega
  split <;> omega
theorem ZaR.s1 (h : ZaR w base x its b4 v E0 t1 t6 t7 t8 tS n1 n6 n7 n8 n9 n10 D e ds L) (hD : D n1 = false) (hE : E0 (upd e t1 x.way)) (ht : t6 ≠ t1 ∧ t7 ≠ t1 ∧ t8 ≠ t1) (hn : n6 ≠ n1 ∧ n7 ≠ n1 ∧ n8 ≠ n1 ∧ n10 ≠ n1) (h9 : n9 ≠ n1 ∧ tS ≠ t1) :
    ZaR w base x its b4 v E0 t1 t6 t7 t8 tS n1 n6 n7 n8 n9 n10 (fun j => D j || j == n1) (upd e t1 x.way) ds L := by
  have q8 : D n8 = false := by cases q : D n8 with | false => rfl | true => have := (h.dc.2.1 q).2; rw [hD] at this; cases this
  have q10 : D n10 = false := by cases q : D n10 with | false => rfl | true => have := h.dc.1 q; rw [q8] at this; cases this
  refine ⟨h.hds, hE, fun _ => by simp [upd], ?_, ?_, ?_⟩
  · simp only [beq_eq_false_iff_ne.2 hn.1, beq_eq_false_iff_ne.2 hn.2.1, beq_eq_false_iff_ne.2 hn.2.2.1, beq_eq_false_iff_ne.2 hn.2.2.2, Bool.or_false, beq_self_eq_true, Bool.or_true]
    exact ⟨h.dc.1, fun q => (by rw [q8] at q; cases q), h.dc.2.2⟩
  · have := h.o
    simpa only [upd, if_neg ht.1, if_neg ht.2.1, if_neg ht.2.2, beq_eq_false_iff_ne.2 hn.1, beq_eq_false_iff_ne.2 hn.2.1, beq_eq_false_iff_ne.2 hn.2.2.1, beq_eq_false_iff_ne.2 hn.2.2.2, Bool.or_false] using this
  · intro q
    simp only [beq_eq_false_iff_ne.2 h9.1, Bool.or_false] at q
    simp only [upd, if_neg h9.2]
    exact h.d9 q
theorem ZaR.s6 {its2 : List Rw} {a2 : Option Addr} {c2 : Nat} (h : ZaR w base x its b4 v E0 t1 t6 t7 t8 tS n1 n6 n7 n8 n9 n10 D e ds L) (hD : D n6 = false) (hv : ZeV v its2 a2 c2) (hi : ∀ p ∈ ownR its2, w.heap.size ≤ p.1) (hE : E0 (upd e t6 (.agg (v.cells a2 c2).toArray))) (ht : t1 ≠ t6) (hn : n1 ≠ n6 ∧ n7 ≠ n6 ∧ n8 ≠ n6 ∧ n10 ≠ n6) (h9 : n9 ≠ n6 ∧ tS ≠ t6) :
    ZaR w base x its b4 v E0 t1 t6 t7 t8 tS n1 n6 n7 n8 n9 n10 (fun j => D j || j == n6) (upd e t6 (.agg (v.cells a2 c2).toArray)) ds (ownR its2 ++ L) := by
  have q7 : D n7 = false := by cases q : D n7 with | false => rfl | true => have := h.dc.2.2 q; rw [hD] at this; cases this
  have q8 : D n8 = false := by cases q : D n8 with | false => rfl | true => have := (h.dc.2.1 q).1; rw [q7] at this; cases this
  have q10 : D n10 = false := by cases q : D n10 with | false => rfl | true => have := h.dc.1 q; rw [q8] at this; cases this
  have ho := h.o
  rw [q10, q8, q7, hD] at ho
  simp only [Bool.false_eq_true, if_false] at ho
  refine ⟨h.hds, hE, fun q => ?_, ?_, ?_, ?_⟩
  · simp only [beq_eq_false_iff_ne.2 hn.1, Bool.or_false] at q
    simp only [upd, if_neg ht]
    exact h.d1 q
  · simp only [beq_eq_false_iff_ne.2 hn.1, beq_eq_false_iff_ne.2 hn.2.1, beq_eq_false_iff_ne.2 hn.2.2.1, beq_eq_false_iff_ne.2 hn.2.2.2, Bool.or_false, beq_self_eq_true, Bool.or_true]
    exact ⟨h.dc.1, h.dc.2.1, fun _ => trivial⟩
  · simp only [beq_eq_false_iff_ne.2 hn.2.1, beq_eq_false_iff_ne.2 hn.2.2.1, beq_eq_false_iff_ne.2 hn.2.2.2, Bool.or_false, beq_self_eq_true, Bool.or_true, q7, q8, q10, Bool.false_eq_true, if_false, if_true]
    exact ⟨its2, a2, c2, hv, hi, by simp [upd], by rw [show L = _ from ho]⟩
  · intro q
    simp only [beq_eq_false_iff_ne.2 h9.1, Bool.or_false] at q
    simp only [upd, if_neg h9.2]
    exact h.d9 q
theorem ZaR.call (h : ZaR w base x its b4 v E0 t1 t6 t7 t8 tS n1 n6 n7 n8 n9 n10 D e ds L) (hD : D n6 = true) (hD7 : D n7 = false) : ∃ (its2 : List Rw) (a2 : Option Addr) (c2 : Nat), ZeV v its2 a2 c2 ∧ (∀ p ∈ ownR its2, w.heap.size ≤ p.1) ∧ e t6 = .agg (v.cells a2 c2).toArray ∧ L = ownR its2 ++ (x.own ++ (ownR its ++ oVl b4 x.way :: base)) := by
  have q8 : D n8 = false := by cases q : D n8 with | false => rfl | true => have := (h.dc.2.1 q).1; rw [hD7] at this; cases this
  have q10 : D n10 = false := by cases q : D n10 with | false => rfl | true => have := h.dc.1 q; rw [q8] at this; cases this
  have ho := h.o
  rw [q10, q8, hD7, hD] at ho
  simp only [Bool.false_eq_true, if_false, if_true] at ho
  exact ho
theorem ZaR.s7 {its2 : List Rw} {a2 : Option Addr} {c2 b7 : Nat} (h : ZaR w base x its b4 v E0 t1 t6 t7 t8 tS n1 n6 n7 n8 n9 n10 D e ds L) (hD6 : D n6 = true) (hD : D n7 = false) (hv : ZeV v its2 a2 c2) (hi : ∀ p ∈ ownR its2, w.heap.size ≤ p.1) (h7 : w.heap.size ≤ b7) (hL : L = ownR its2 ++ (x.own ++ (ownR its ++ oVl b4 x.way :: base))) (hE : E0 (upd e t7 (.slice (some ⟨b7, 0, none⟩) 1 1))) (ht : t1 ≠ t7) (hn : n1 ≠ n7 ∧ n6 ≠ n7 ∧ n8 ≠ n7 ∧ n10 ≠ n7) (h9 : n9 ≠ n7 ∧ tS ≠ t7) :
    ZaR w base x its b4 v E0 t1 t6 t7 t8 tS n1 n6 n7 n8 n9 n10 (fun j => D j || j == n7) (upd e t7 (.slice (some ⟨b7, 0, none⟩) 1 1)) ds ((b7, Obj.cells (v.cells a2 c2).toArray 29 (0, 0)) :: L) := by
  have q8 : D n8 = false := by cases q : D n8 with | false => rfl | true => have := (h.dc.2.1 q).1; rw [hD] at this; cases this
  have q10 : D n10 = false := by cases q : D n10 with | false => rfl | true => have := h.dc.1 q; rw [q8] at this; cases this
  refine ⟨h.hds, hE, fun q => ?_, ?_, ?_, ?_⟩
  · simp only [beq_eq_false_iff_ne.2 hn.1, Bool.or_false] at q
    simp only [upd, if_neg ht]
    exact h.d1 q
  · simp only [beq_eq_false_iff_ne.2 hn.1, beq_eq_false_iff_ne.2 hn.2.1, beq_eq_false_iff_ne.2 hn.2.2.1, beq_eq_false_iff_ne.2 hn.2.2.2, Bool.or_false, beq_self_eq_true, Bool.or_true]
    exact ⟨h.dc.1, fun q => (by rw [q8] at q; cases q), fun _ => hD6⟩
  · simp only [beq_eq_false_iff_ne.2 hn.2.2.1, beq_eq_false_iff_ne.2 hn.2.2.2, Bool.or_false, beq_self_eq_true, Bool.or_true, q8, q10, Bool.false_eq_true, if_false, if_true]
    exact ⟨its2, a2, c2, b7, hv, hi, h7, by simp [upd], by rw [hL]⟩
  · intro q
    simp only [beq_eq_false_iff_ne.2 h9.1, Bool.or_false] at q
    simp only [upd, if_neg h9.2]
    exact h.d9 q
theorem ZaR.row (h : ZaR w base x its b4 v E0 t1 t6 t7 t8 tS n1 n6 n7 n8 n9 n10 D e ds L) (hD : D n7 = true) (hD8 : D n8 = false) : ZaS w base x its b4 v (e t6) (e t7) (e t8) L 2 := by
  have q10 : D n10 = false := by cases q : D n10 with | false => rfl | true => have := h.dc.1 q; rw [hD8] at this; cases this
  have ho := h.o
  rw [q10, hD8, hD] at ho
  simp only [Bool.false_eq_true, if_false, if_true] at ho
  exact ho
theorem ZaR.s8 {x' : Rw} {L'' : Own} {e6 e7 : Value} (h : ZaR w base x its b4 v E0 t1 t6 t7 t8 tS n1 n6 n7 n8 n9 n10 D e ds L) (hD1 : D n1 = true) (hD7 : D n7 = true) (hD : D n8 = false) (ho : ZaS w base x its b4 v e6 e7 x'.way L'' 3) (hE : E0 (upd e t8 x'.way)) (ht : t1 ≠ t8) (hn : n1 ≠ n8 ∧ n6 ≠ n8 ∧ n7 ≠ n8 ∧ n10 ≠ n8) (h9 : n9 ≠ n8 ∧ tS ≠ t8) :
    ZaR w base x its b4 v E0 t1 t6 t7 t8 tS n1 n6 n7 n8 n9 n10 (fun j => D j || j == n8) (upd e t8 x'.way) ds L'' := by
  have q10 : D n10 = false := by cases q : D n10 with | false => rfl | true => have := h.dc.1 q; rw [hD] at this; cases this
  refine ⟨h.hds, hE, fun q => ?_, ?_, ?_, ?_⟩
  · simp only [upd, if_neg ht]
    exact h.d1 hD1
  · simp only [beq_eq_false_iff_ne.2 hn.1, beq_eq_false_iff_ne.2 hn.2.1, beq_eq_false_iff_ne.2 hn.2.2.1, beq_eq_false_iff_ne.2 hn.2.2.2, Bool.or_false, beq_self_eq_true, Bool.or_true]
    exact ⟨fun _ => trivial, fun _ => ⟨hD7, hD1⟩, h.dc.2.2⟩
  · simp only [beq_eq_false_iff_ne.2 hn.2.2.2, Bool.or_false, beq_self_eq_true, Bool.or_true, q10, Bool.false_eq_true, if_false, if_true]
    obtain ⟨its2, a2, c2, x2, r1, r2, r3, r4, r5, r6, r7, r8⟩ := ho
    exact ⟨its2, a2, c2, x2, r1, r2, r3, r4, r5, r6, by simp only [upd, if_pos]; exact r7, r8⟩
  · intro q
    simp only [beq_eq_false_iff_ne.2 h9.1, Bool.or_false] at q
    simp only [upd, if_neg h9.2]
    exact h.d9 q
theorem ZaR.app (h : ZaR w base x its b4 v E0 t1 t6 t7 t8 tS n1 n6 n7 n8 n9 n10 D e ds L) (hD8 : D n8 = true) (hD : D n10 = false) : ∃ (its2 : List Rw) (a2 : Option Addr) (c2 : Nat) (x' : Rw), ZeV v its2 a2 c2 ∧ (∀ p ∈ ownR its2, w.heap.size ≤ p.1) ∧ x'.OK ∧ x'.n = x.n + 1 ∧ x'.cs.take (x'.n * 4) = x.cs.take (x.n * 4) ++ v.cells a2 c2 ∧ (∀ p ∈ x'.own, w.heap.size ≤ p.1) ∧ e t8 = x'.way ∧ L = oVl b4 x.way :: (x'.own ++ (ownR its ++ (ownR its2 ++ base))) := by
  have ho := h.o
  rw [hD, hD8] at ho
  simp only [Bool.false_eq_true, if_false, if_true] at ho
  exact ho
theorem ZaR.s10 {x' : Rw} {its2 : List Rw} {a2 : Option Addr} {c2 : Nat} (h : ZaR w base x its b4 v E0 t1 t6 t7 t8 tS n1 n6 n7 n8 n9 n10 D e ds L) (hD8 : D n8 = true) (hv : ZeV v its2 a2 c2) (hi : ∀ p ∈ ownR its2, w.heap.size ≤ p.1) (r3 : x'.OK) (r4 : x'.n = x.n + 1) (r5 : x'.cs.take (x'.n * 4) = x.cs.take (x.n * 4) ++ v.cells a2 c2) (r6 : ∀ p ∈ x'.own, w.heap.size ≤ p.1) (hn : n1 ≠ n10 ∧ n6 ≠ n10 ∧ n7 ≠ n10 ∧ n8 ≠ n10) (h9 : n9 ≠ n10) :
    ZaR w base x its b4 v E0 t1 t6 t7 t8 tS n1 n6 n7 n8 n9 n10 (fun j => D j || j == n10) e ds (oVl b4 x'.way :: (x'.own ++ (ownR its ++ (ownR its2 ++ base)))) := by
  refine ⟨h.hds, h.he, fun q => ?_, ?_, ?_, ?_⟩
  · simp only [beq_eq_false_iff_ne.2 hn.1, Bool.or_false] at q
    exact h.d1 q
  · simp only [beq_eq_false_iff_ne.2 hn.1, beq_eq_false_iff_ne.2 hn.2.1, beq_eq_false_iff_ne.2 hn.2.2.1, beq_eq_false_iff_ne.2 hn.2.2.2, Bool.or_false, beq_self_eq_true, Bool.or_true]
    exact ⟨fun _ => hD8, h.dc.2.1, h.dc.2.2⟩
  · simp only [beq_self_eq_true, Bool.or_true, if_true]
    exact ⟨its2, a2, c2, x', hv, hi, r3, r4, r5, r6, rfl⟩
  · intro q
    simp only [beq_eq_false_iff_ne.2 h9, Bool.or_false] at q
    exact h.d9 q
theorem ZaR.done (h : ZaR w base x its b4 v E0 t1 t6 t7 t8 tS n1 n6 n7 n8 n9 n10 D e ds L) (hD : D n10 = true) : ∃ (its2 : List Rw) (a2 : Option Addr) (c2 : Nat) (x' : Rw), ZeV v its2 a2 c2 ∧ (∀ p ∈ ownR its2, w.heap.size ≤ p.1) ∧ x'.OK ∧ x'.n = x.n + 1 ∧ x'.cs.take (x'.n * 4) = x.cs.take (x.n * 4) ++ v.cells a2 c2 ∧ (∀ p ∈ x'.own, w.heap.size ≤ p.1) ∧ L = oVl b4 x'.way :: (x'.own ++ (ownR its ++ (ownR its2 ++ base))) := by
  have ho := h.o
  rw [hD] at ho
  simp only [if_true] at ho
  exact ho
theorem ZaR.s9 (h : ZaR w base x its b4 v E0 t1 t6 t7 t8 tS n1 n6 n7 n8 n9 n10 D e ds L) (hE : E0 (upd e tS (.pointer (some ⟨b4, 3, none⟩)))) (ht : t1 ≠ tS ∧ t6 ≠ tS ∧ t7 ≠ tS ∧ t8 ≠ tS) (hn : n1 ≠ n9 ∧ n6 ≠ n9 ∧ n7 ≠ n9 ∧ n8 ≠ n9 ∧ n10 ≠ n9) :
    ZaR w base x its b4 v E0 t1 t6 t7 t8 tS n1 n6 n7 n8 n9 n10 (fun j => D j || j == n9) (upd e tS (.pointer (some ⟨b4, 3, none⟩))) ds L := by
  refine ⟨h.hds, hE, fun q => ?_, ?_, ?_, fun _ => by simp [upd]⟩
  · simp only [beq_eq_false_iff_ne.2 hn.1, Bool.or_false] at q
    simp only [upd, if_neg ht.1]
    exact h.d1 q
  · simp only [beq_eq_false_iff_ne.2 hn.1, beq_eq_false_iff_ne.2 hn.2.1, beq_eq_false_iff_ne.2 hn.2.2.1, beq_eq_false_iff_ne.2 hn.2.2.2.1, beq_eq_false_iff_ne.2 hn.2.2.2.2, Bool.or_false]
    exact h.dc
  · have := h.o
    simpa only [upd, if_neg ht.2.1, if_neg ht.2.2.1, if_neg ht.2.2.2, beq_eq_false_iff_ne.2 hn.2.1, beq_eq_false_iff_ne.2 hn.2.2.1, beq_eq_false_iff_ne.2 hn.2.2.2.1, beq_eq_false_iff_ne.2 hn.2.2.2.2, Bool.or_false] using this
end
end Go.Proofs.YtilejcofleeeiaaGreatDoor
