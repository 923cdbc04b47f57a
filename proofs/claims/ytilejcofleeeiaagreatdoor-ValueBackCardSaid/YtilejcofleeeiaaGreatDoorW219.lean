/- YtilejcofleeeiaaGreatDoor: walks, part 219: strings.Builder: a byte more; the whole as a string. -/
import Derived.Test.YtilejcofleeeiaaGreatDoorW217
import Derived.Shelf.RegionOpenPlain
import Derived.Lib.Builder
import Derived.Lib.UnsafeStr
import Derived.WalkKit
import Derived.Laws.Externs
namespace Go.Proofs.YtilejcofleeeiaaGreatDoor
open Go Go.K Go.RowKit
set_option maxRecDepth 100000
set_option linter.unusedVariables false
set_option linter.unusedSimpArgs false
set_option maxHeartbeats 4000000
theorem copyCheck_used (b : Nat) (w : World) (h0 : w.cell? ⟨b, 0, none⟩ = some (.pointer (some ⟨b, 0, none⟩))) :
    Calls Tryz.prog 84 #[.pointer (some ⟨b, 0, none⟩)] w fun e w' => e = .returned (.tuple #[]) ∧ w' = w := by
  obtain ⟨j, hj, _⟩ := Option.map_eq_some_iff.1 (show (Tryz.prog.info? 56).map (·.size) = some 2 by kernel_rfl)
  have t72 := Tryz.underlying56; have a72 := Tryz.isAgg56; have z72 := Tryz.sizeOf56; have v72 := Tryz.zeroValue56; have u72 := run_underlying Tryz.underlying56
  have t70 := Tryz.underlying53; have a70 := Tryz.isAgg53; have z70 := Tryz.sizeOf53; have v70 := Tryz.zeroValue53; have u70 := run_underlying Tryz.underlying53
  have t4 := Tryz.underlying4; have a4 := Tryz.isAgg4; have z4 := Tryz.sizeOf4; have v4 := Tryz.zeroValue4; have u4 := run_underlying Tryz.underlying4
  go_enter Tryz.func84, Tryz.ntmps84
  go_wp2
  rw [Lib.run_neq_ptr_same w _ Tryz.underlying53 hj]
  go_wp2
  go_end0
  exact ⟨rfl, rfl⟩
theorem copyCheck_fresh (T : TypeId) (hl : liesAt Tryz.prog Tryz.prog.depth T (2 / Tryz.prog.cellsOf T) 0 56 1 = true) (b : Nat) (w : World) (h0 : w.cell? ⟨b, 0, none⟩ = some (.pointer none)) (hsh : w.shape? b = some (T, 2)) (hfz : w.frozen? ⟨b, 0, none⟩ = false) :
    Calls Tryz.prog 84 #[.pointer (some ⟨b, 0, none⟩)] w fun e w' => e = .returned (.tuple #[]) ∧ w' = w.setCell ⟨b, 0, none⟩ (.pointer (some ⟨b, 0, none⟩)) := by
  obtain ⟨j, hj, hjs⟩ := Option.map_eq_some_iff.1 (show (Tryz.prog.info? 56).map (·.size) = some 2 by kernel_rfl)
  have t72 := Tryz.underlying56; have a72 := Tryz.isAgg56; have z72 := Tryz.sizeOf56; have v72 := Tryz.zeroValue56; have u72 := run_underlying Tryz.underlying56
  have t70 := Tryz.underlying53; have a70 := Tryz.isAgg53; have z70 := Tryz.sizeOf53; have v70 := Tryz.zeroValue53; have u70 := run_underlying Tryz.underlying53
  have t4 := Tryz.underlying4; have a4 := Tryz.isAgg4; have z4 := Tryz.sizeOf4; have v4 := Tryz.zeroValue4; have u4 := run_underlying Tryz.underlying4
  have t164 := Tryz.underlying154; have a164 := Tryz.isAgg154; have z164 := Tryz.sizeOf154; have v164 := Tryz.zeroValue154; have u164 := run_underlying Tryz.underlying154
  go_enter Tryz.func84, Tryz.ntmps84
  go_wp2
  rw [Lib.run_to_unsafe w ⟨b, 0, none⟩ Tryz.underlying53 Tryz.underlying154 hj (by rw [hjs]; decide) hsh (Nat.zero_lt_succ 1)]
  simp only [Result.andThen]
  rw [Oper.upon_value]
  go_wp2
  rw [run_callFunc_extern Tryz.func116 (by kernel_rfl) (by kernel_rfl) (by kernel_rfl) (e := Extern.AbiNoEscape.same) (by kernel_rfl)]
  rw [Lib.run_noEscape]
  simp only [Result.andThen]
  rw [Oper.upon_value]
  go_wp2
  rw [Lib.run_from_unsafe w ⟨b, 0, none⟩ Tryz.underlying154 Tryz.underlying53 hj hsh hl]
  simp only [Result.andThen]
  rw [Oper.upon_value]
  go_wp2
  go_end0
  exact ⟨rfl, rfl⟩
/-- A builder's block: strings.Builder, or a struct whose first field is one. -/
abbrev isBl (T : TypeId) : Prop := T = 56 ∨ T = 58
abbrev selfP (b : Nat) : Value := .pointer (some ⟨b, 0, none⟩)
abbrev oBl (T : TypeId) (b : Nat) (p v : Value) : Nat × Obj := (b, Obj.cells #[p, v] T (0, 0))
theorem setCell_sy (w : World) (b : Nat) (T : TypeId) (p v q : Value) (h : w.heap[b]? = some (.cells #[p, v] T (0, 0))) : Sy w [oBl T b q v] (w.setCell ⟨b, 0, none⟩ q) := by
  refine ⟨rfl, rfl, rfl, by simp [World.setCell], fun b' o hm => ?_, by simp, fun k hk hn => ?_⟩
  · simp only [List.mem_singleton, Prod.mk.injEq] at hm
    obtain ⟨rfl, rfl⟩ := hm
    simp [World.setCell, Array.getElem?_modify, h]
  · simp only [List.map_cons, List.map_nil, List.mem_singleton] at hn
    have : ¬ b = k := fun e => hn e.symm
    simp [World.setCell, Array.getElem?_modify, this]
theorem copyCheck_walk (w : World) (T : TypeId) (hT : isBl T) (b : Nat) (p v : Value) (hp : p = .pointer none ∨ p = selfP b) (h : w.heap[b]? = some (.cells #[p, v] T (0, 0))) :
    Calls Tryz.prog 84 #[selfP b] w fun e w' => e = .returned (.tuple #[]) ∧ Sy w [oBl T b (selfP b) v] w' := by
  have hc : w.cell? ⟨b, 0, none⟩ = some p := by simp [World.cell?, h]
  rcases hp with rfl | rfl
  · refine (copyCheck_fresh T (by rcases hT with rfl | rfl <;> kernel_rfl) b w hc (by simp [World.shape?, h]) (by simp [World.frozen?, h])).mono ?_
    rintro e w' ⟨rfl, rfl⟩
    exact ⟨rfl, setCell_sy w b T _ v _ h⟩
  · refine (copyCheck_used b w hc).mono ?_
    rintro e w' ⟨rfl, rfl⟩
    refine ⟨rfl, rfl, rfl, rfl, Nat.le_refl _, fun b' o hm => ?_, by simp, fun k _ _ => rfl⟩
    simp only [List.mem_singleton, Prod.mk.injEq] at hm
    obtain ⟨rfl, rfl⟩ := hm
    exact h
/-- What a builder holds so far; M: what else is owned. -/
def BlO (wb : World) (T : TypeId) (b : Nat) (bs : List UInt8) (L M : Own) : Prop :=
  ∃ p v, (p = .pointer none ∨ p = selfP b) ∧ RowO wb 5 1 L (oBl T b p v :: M) v bs.length (bytesV bs) ∧ (bs = [] → v = .slice none 0 0) ∧ wb.heap.size ≤ b
theorem infoU8 : (Tryz.prog.info? 5).map (fun i => (i.zero, i.size, i.bytes)) = some (some (.int .u8 0), 1, 1) := by kernel_rfl
theorem BlO.new {wb : World} {T : TypeId} {b : Nat} {bs : List UInt8} {L M : Own} (h : BlO wb T b bs L M) (hM : ∀ p ∈ M, wb.heap.size ≤ p.1) : ∀ p ∈ L, wb.heap.size ≤ p.1 := by
  obtain ⟨p, v, _, hr, _, hb⟩ := h
  exact hr.new fun q hq => by
    rcases List.mem_cons.1 hq with rfl | hq
    · exact hb
    · exact hM q hq
theorem BlO.sub {wb : World} {T : TypeId} {b : Nat} {bs : List UInt8} {L M : Own} (h : BlO wb T b bs L M) : ∀ p ∈ M, p ∈ L := fun p hp => by
  obtain ⟨q, v, _, hr, _, _⟩ := h
  exact hr.mem (.tail _ hp)
theorem len_walk (wb w : World) (T : TypeId) (b : Nat) (bs : List UInt8) (L M : Own) (hB : BlO wb T b bs L M) (hw : Sy wb L w) :
    Calls Tryz.prog 24 #[selfP b] w (Rets w (Is (i64 bs.length))) := by
  refine enterT (args := [selfP b]) Tryz.func24 rfl Tryz.ntmps24 (congrArg Array.toList Tryz.results24) (by kernel_rfl) (by simp) (Sy.refl w) ?_
  simp (disch := omega) only [push_cast, Nat.reduceEqDiff]
  obtain ⟨p, v, hp, hr, h0, hb⟩ := hB
  have hm := hr.mem (.head _)
  have hat : At w b 1 [v] := At.of_own (cs := [p, v]) hw hm rfl
  refine ldF Shp.eq hat (by simp) ?_
  obtain ⟨a, c, rfl⟩ := hr.is_slice
  simp (disch := omega) only [push_cast, Nat.reduceEqDiff]
  exact finIs (by simp) rfl
/-- What a write leaves behind. -/
def BlW (wb : World) (T : TypeId) (b : Nat) (bs : List UInt8) (M : Own) (v : Value) (L' : Own) : Prop := BlO wb T b bs L' M
theorem write_walk (wb w : World) (T : TypeId) (hT : isBl T) (b : Nat) (bs s : List UInt8) (L M : Own) (hB : BlO wb T b bs L M) (hs : s ≠ []) (hlen : bs.length + s.length ≤ 140737488355328) (hw : Sy wb L w) :
    Calls Tryz.prog 46 #[selfP b, str s] w fun e w' => ∃ v L', e = .returned v ∧ Sy wb L' w' ∧ (v = .tuple #[i64 s.length, .nilIface] ∧ BlO wb T b (bs ++ s) L' M) := by
  refine enterB (args := [selfP b, str s]) Tryz.func46 rfl Tryz.ntmps46 (congrArg Array.toList Tryz.results46) (by kernel_rfl) (by simp) hw ?_
  simp (disch := omega) only [push_cast, Nat.reduceEqDiff]
  obtain ⟨p, v, hp, hr, h0, hb⟩ := hB
  have hne : bs ++ s ≠ [] := fun e => hs (List.append_eq_nil_iff.1 e).2
  have fin : ∀ (v' : Value) (L' : Own), RowO wb 5 1 L' (oBl T b (selfP b) v' :: M) v' (bs.length + s.length) (bytesV bs ++ bytesV s) → BlO wb T b (bs ++ s) L' M := fun v' L' h' =>
    ⟨_, v', .inr rfl, h'.cast (by rw [List.length_append]) (bytesV_append _ _).symm, fun e => absurd e hne, hb⟩
  obtain ⟨h1, ⟨rfl, h2, rfl⟩ | ⟨g, cap, cs, rfl, rfl, h3⟩⟩ := hr
  · refine callV en_84 (callX_mut 0 b (S := fun v o => o = (oBl T b (selfP b) (.slice none 0 0)).2) rfl (fun w' hw' => (copyCheck_walk w' T hT b p _ hp (hw'.own _ _ mem0)).mono fun e w2 ⟨he, hs2⟩ => ⟨_, _, he, hs2, rfl⟩) ?_)
    rintro u o' rfl
    simp (disch := omega) only [push_cast, Nat.reduceEqDiff]
    refine ldOne Shp.eq mem0 rfl ?_
    simp (disch := omega) only [push_cast, Nat.reduceEqDiff]
    refine appendS (M := oBl T b (selfP b) (.slice none 0 0) :: M) s un_54 Tryz.underlying9 infoU8 ⟨h1, .inl ⟨rfl, h2, rfl⟩⟩ (by omega) (fun v' L' h' => ?_)
    simp (disch := omega) only [push_cast, Nat.reduceEqDiff]
    obtain ⟨q1, ⟨rfl, q2, rfl⟩ | ⟨g', cap', cs', rfl, rfl, q3⟩⟩ := h'
    · refine storeX 0 rfl Siz.eq rfl rfl (by simp [Value.oneCell']) (by simp) ?_
      simp (disch := omega) only [push_cast, Nat.reduceEqDiff]
      exact fun w' hw' => ⟨_, _, rfl, hw', rfl, fin _ _ ⟨q1, .inl ⟨rfl, q2, rfl⟩⟩⟩
    · refine storeX 1 rfl Siz.eq rfl rfl (by simp [Value.oneCell']) (by simp) ?_
      simp (disch := omega) only [push_cast, Nat.reduceEqDiff]
      exact fun w' hw' => ⟨_, _, rfl, hw', rfl, fin _ _ ⟨q1, .inr ⟨g', cap', cs', rfl, rfl, q3⟩⟩⟩
  · refine callV en_84 (callX_mut 1 b (S := fun v o => o = (oBl T b (selfP b) (.slice (some ⟨g, 0, none⟩) bs.length cap)).2) rfl (fun w' hw' => (copyCheck_walk w' T hT b p _ hp (hw'.own _ _ mem1)).mono fun e w2 ⟨he, hs2⟩ => ⟨_, _, he, hs2, rfl⟩) ?_)
    rintro u o' rfl
    simp (disch := omega) only [push_cast, Nat.reduceEqDiff]
    refine ldOne Shp.eq mem1 rfl ?_
    simp (disch := omega) only [push_cast, Nat.reduceEqDiff]
    refine appendS (M := oBl T b (selfP b) (.slice (some ⟨g, 0, none⟩) bs.length cap) :: M) s un_54 Tryz.underlying9 infoU8 ⟨h1, .inr ⟨g, cap, cs, rfl, rfl, h3⟩⟩ (by omega) (fun v' L' h' => ?_)
    simp (disch := omega) only [push_cast, Nat.reduceEqDiff]
    obtain ⟨q1, ⟨rfl, q2, rfl⟩ | ⟨g', cap', cs', rfl, rfl, q3⟩⟩ := h'
    · refine storeX 0 rfl Siz.eq rfl rfl (by simp [Value.oneCell']) (by simp) ?_
      simp (disch := omega) only [push_cast, Nat.reduceEqDiff]
      exact fun w' hw' => ⟨_, _, rfl, hw', rfl, fin _ _ ⟨q1, .inl ⟨rfl, q2, rfl⟩⟩⟩
    · refine storeX 1 rfl Siz.eq rfl rfl (by simp [Value.oneCell']) (by simp) ?_
      simp (disch := omega) only [push_cast, Nat.reduceEqDiff]
      exact fun w' hw' => ⟨_, _, rfl, hw', rfl, fin _ _ ⟨q1, .inr ⟨g', cap', cs', rfl, rfl, q3⟩⟩⟩
end Go.Proofs.YtilejcofleeeiaaGreatDoor
namespace Go.Proofs.YtilejcofleeeiaaGreatDoor
open Go Go.K Go.RowKit
set_option maxRecDepth 100000
set_option linter.unusedVariables false
set_option linter.unusedSimpArgs false
set_option maxHeartbeats 4000000
theorem writeByte_walk (wb w : World) (T : TypeId) (hT : isBl T) (b : Nat) (bs : List UInt8) (c : UInt8) (L M : Own) (hB : BlO wb T b bs L M) (hlen : bs.length + 1 ≤ 140737488355328) (hw : Sy wb L w) :
    Calls Tryz.prog 52 #[selfP b, .int .u8 c.toNat] w fun e w' => ∃ v L', e = .returned v ∧ Sy wb L' w' ∧ (v = .nilIface ∧ BlO wb T b (bs ++ [c]) L' M) := by
  refine enterB (args := [selfP b, .int .u8 c.toNat]) Tryz.func52 rfl Tryz.ntmps52 (congrArg Array.toList Tryz.results52) (by kernel_rfl) (by simp) hw ?_
  simp (disch := omega) only [push_cast, Nat.reduceEqDiff]
  obtain ⟨p, v, hp, hr, h0, hb⟩ := hB
  have fin : ∀ (v' : Value) (L' : Own), RowO wb 5 1 L' (oBl T b (selfP b) v' :: M) v' (bs.length + [c].length) (bytesV bs ++ bytesV [c]) → BlO wb T b (bs ++ [c]) L' M := fun v' L' h' =>
    ⟨_, v', .inr rfl, h'.cast (by rw [List.length_append]) (bytesV_append _ _).symm, fun e => absurd e (by simp), hb⟩
  obtain ⟨h1, ⟨rfl, h2, rfl⟩ | ⟨g, cap, cs, rfl, rfl, h3⟩⟩ := hr
  · refine callV en_84 (callX_mut 0 b (S := fun v o => o = (oBl T b (selfP b) (.slice none 0 0)).2) rfl (fun w' hw' => (copyCheck_walk w' T hT b p _ hp (hw'.own _ _ mem0)).mono fun e w2 ⟨he, hs2⟩ => ⟨_, _, he, hs2, rfl⟩) ?_)
    rintro u o' rfl
    simp (disch := omega) only [push_cast, Nat.reduceEqDiff]
    refine ldOne Shp.eq mem0 rfl ?_
    simp (disch := omega) only [push_cast, Nat.reduceEqDiff]
    refine makeOne (size := 1) un_54 (by kernel_rfl) (by decide) (by decide) (fun w => Tryz.zeroValue5 w) rfl (newI (fun b1 hb1 hn1 => ?_))
    simp (disch := omega) only [push_cast, Nat.reduceEqDiff]
    refine appendB (M := oBl T b (selfP b) (.slice none 0 0) :: M) [c] un_54 infoU8 ⟨h1, .inl ⟨rfl, h2, rfl⟩⟩ hb1 (by simp; omega) (fun v' L' h' => ?_)
    simp (disch := omega) only [push_cast, Nat.reduceEqDiff]
    obtain ⟨q1, ⟨rfl, q2, rfl⟩ | ⟨g', cap', cs', rfl, rfl, q3⟩⟩ := h'
    · simp at q2
    · refine storeX 2 rfl Siz.eq rfl rfl (by simp [Value.oneCell']) (by simp) ?_
      simp (disch := omega) only [push_cast, Nat.reduceEqDiff]
      exact fun w' hw' => ⟨_, (g', Obj.cells cs'.toArray 5 (0, 0)) :: oBl T b (selfP b) _ :: M, rfl, hw'.mid [_] [_] (fun p hp => by rw [List.mem_singleton.1 hp]; exact hb1), rfl, fin _ _ ⟨q1, .inr ⟨g', cap', cs', rfl, rfl, q3⟩⟩⟩
  · refine callV en_84 (callX_mut 1 b (S := fun v o => o = (oBl T b (selfP b) (.slice (some ⟨g, 0, none⟩) bs.length cap)).2) rfl (fun w' hw' => (copyCheck_walk w' T hT b p _ hp (hw'.own _ _ mem1)).mono fun e w2 ⟨he, hs2⟩ => ⟨_, _, he, hs2, rfl⟩) ?_)
    rintro u o' rfl
    simp (disch := omega) only [push_cast, Nat.reduceEqDiff]
    refine ldOne Shp.eq mem1 rfl ?_
    simp (disch := omega) only [push_cast, Nat.reduceEqDiff]
    refine makeOne (size := 1) un_54 (by kernel_rfl) (by decide) (by decide) (fun w => Tryz.zeroValue5 w) rfl (newI (fun b1 hb1 hn1 => ?_))
    simp (disch := omega) only [push_cast, Nat.reduceEqDiff]
    refine appendB (M := oBl T b (selfP b) (.slice (some ⟨g, 0, none⟩) bs.length cap) :: M) [c] un_54 infoU8 ⟨h1, .inr ⟨g, cap, cs, rfl, rfl, h3⟩⟩ hb1 (by simp; omega) (fun v' L' h' => ?_)
    simp (disch := omega) only [push_cast, Nat.reduceEqDiff]
    obtain ⟨q1, ⟨rfl, q2, rfl⟩ | ⟨g', cap', cs', rfl, rfl, q3⟩⟩ := h'
    · simp at q2
    · refine storeX 2 rfl Siz.eq rfl rfl (by simp [Value.oneCell']) (by simp) ?_
      simp (disch := omega) only [push_cast, Nat.reduceEqDiff]
      exact fun w' hw' => ⟨_, (g', Obj.cells cs'.toArray 5 (0, 0)) :: oBl T b (selfP b) _ :: M, rfl, hw'.mid [_] [_] (fun p hp => by rw [List.mem_singleton.1 hp]; exact hb1), rfl, fin _ _ ⟨q1, .inr ⟨g', cap', cs', rfl, rfl, q3⟩⟩⟩
theorem string_nil (w : World) (b : Nat) (T : TypeId) (p : Value) (hbk : w.heap[b]? = some (.cells #[p, .slice none 0 0] T (0, 0))) :
    Calls Tryz.prog 25 #[selfP b] w fun e w' => e = .returned (.string ⟨#[]⟩) ∧ w' = w.drew := by
  have hUS : ∀ W q, (Builtin.unsafeString_ #[100, 3] 9 #[.pointer q, .int .i64 0]).run Tryz.prog W = .ok (.string .empty) W := fun W q => Lib.run_unsafeString_none W _ _ _ q
  have c1 : w.drew.cell? ⟨b, 1, none⟩ = some (.slice none 0 0) := by
    have : w.drew.heap[b]? = some (.cells #[p, .slice none 0 0] T (0, 0)) := hbk
    simp [World.cell?, this]
  have hSD : (Builtin.unsafeSliceData_ #[54] 100 #[.slice none 0 0]).run Tryz.prog w.drew = .ok (.pointer none) w.drew := rfl
  have mixed := mixed
  have t72 := Tryz.underlying56; have a72 := Tryz.isAgg56; have z72 := Tryz.sizeOf56; have v72 := Tryz.zeroValue56; have u72 := run_underlying Tryz.underlying56
  have t37 := Tryz.underlying54; have a37 := Tryz.isAgg54; have z37 := Tryz.sizeOf54; have v37 := Tryz.zeroValue54; have u37 := run_underlying Tryz.underlying54
  have t127 := Tryz.underlying100; have a127 := Tryz.isAgg100; have z127 := Tryz.sizeOf100; have v127 := Tryz.zeroValue100; have u127 := run_underlying Tryz.underlying100
  have t3 := Tryz.underlying3; have a3 := Tryz.isAgg3; have z3 := Tryz.sizeOf3; have v3 := Tryz.zeroValue3; have u3 := run_underlying Tryz.underlying3
  have t9 := Tryz.underlying9; have a9 := Tryz.isAgg9; have z9 := Tryz.sizeOf9; have v9 := Tryz.zeroValue9; have u9 := run_underlying Tryz.underlying9
  go_enter Tryz.func25, Tryz.ntmps25
  go_wp2
  go_region_o
  all_goals (go_wp2; go_ret; exact ⟨rfl, rfl⟩)
theorem string_some (w : World) (b : Nat) (T : TypeId) (p : Value) (l : List UInt8) (h0 : l ≠ []) (g cap : Nat) (cs : List Value) (hbk : w.heap[b]? = some (.cells #[p, .slice (some ⟨g, 0, none⟩) l.length cap] T (0, 0)))
    (hg : w.heap[g]? = some (.cells cs.toArray 5 (0, 0))) (hc : l.length ≤ cap) (hc2 : cap ≤ maxLen) (hcl : cs.length = cap) (hcs : cs.take l.length = bytesV l) :
    Calls Tryz.prog 25 #[selfP b] w fun e w' => e = .returned (str l) ∧ w' = w.drew.freeze ⟨g, 0, none⟩ l.length := by
  have hl0 : l.length ≠ 0 := by simpa using h0
  have c1 : w.drew.cell? ⟨b, 1, none⟩ = some (.slice (some ⟨g, 0, none⟩) l.length cap) := by
    have : w.drew.heap[b]? = some (.cells #[p, .slice (some ⟨g, 0, none⟩) l.length cap] T (0, 0)) := hbk
    simp [World.cell?, this]
  have hg' : w.drew.heap[g]? = some (.cells cs.toArray 5 (0, 0)) := hg
  have hSD : (Builtin.unsafeSliceData_ #[54] 100 #[.slice (some ⟨g, 0, none⟩) l.length cap]).run Tryz.prog w.drew = .ok (.pointer (some ⟨g, 0, none⟩)) w.drew :=
    Lib.run_unsafeSliceData_row _ _ _ _ _ _ (by omega)
  have hUS : (Builtin.unsafeString_ #[100, 3] 9 #[.pointer (some ⟨g, 0, none⟩), .int .i64 l.length]).run Tryz.prog w.drew = .ok (.string ⟨l.toArray⟩) (w.drew.freeze ⟨g, 0, none⟩ l.length) := by
    refine Lib.run_unsafeString_row w.drew 100 3 9 5 Tryz.underlying100 (by kernel_rfl) g cs.length (by simp [World.shape?, hg']) l h0 (by omega) (by unfold maxLen at hc2; omega) ?_
    intro j x hx
    have hj := (List.getElem?_eq_some_iff.1 hx).1
    have ha : (⟨g, 0, none⟩ : Addr).add j = ⟨g, j, none⟩ := by
      unfold Addr.add; split
      · rename_i h; subst h; rfl
      · simp
    rw [ha]
    have h5 : (cs.take l.length)[j]? = some (.int .u8 x.toNat) := by rw [hcs]; simp [bytesV, hx]
    rw [List.getElem?_take_of_lt hj] at h5
    simp [World.cell?, hg', h5]
  have mixed := mixed
  have t72 := Tryz.underlying56; have a72 := Tryz.isAgg56; have z72 := Tryz.sizeOf56; have v72 := Tryz.zeroValue56; have u72 := run_underlying Tryz.underlying56
  have t37 := Tryz.underlying54; have a37 := Tryz.isAgg54; have z37 := Tryz.sizeOf54; have v37 := Tryz.zeroValue54; have u37 := run_underlying Tryz.underlying54
  have t127 := Tryz.underlying100; have a127 := Tryz.isAgg100; have z127 := Tryz.sizeOf100; have v127 := Tryz.zeroValue100; have u127 := run_underlying Tryz.underlying100
  have t3 := Tryz.underlying3; have a3 := Tryz.isAgg3; have z3 := Tryz.sizeOf3; have v3 := Tryz.zeroValue3; have u3 := run_underlying Tryz.underlying3
  have t9 := Tryz.underlying9; have a9 := Tryz.isAgg9; have z9 := Tryz.sizeOf9; have v9 := Tryz.zeroValue9; have u9 := run_underlying Tryz.underlying9
  go_enter Tryz.func25, Tryz.ntmps25
  go_wp2
  go_region_o
  all_goals (go_wp2; go_ret; exact ⟨rfl, rfl⟩)
theorem string_walk (wb w : World) (T : TypeId) (b : Nat) (bs : List UInt8) (L M : Own) (hB : BlO wb T b bs L M) (hw : Sy wb L w) :
    Calls Tryz.prog 25 #[selfP b] w fun e w' => ∃ v L', e = .returned v ∧ Sy wb L' w' ∧ (v = str bs ∧ L' = M) := by
  obtain ⟨p, v, hp, hr, h0, hb⟩ := hB
  by_cases he : bs = []
  · obtain rfl := h0 he
    subst he
    have hm := hr.mem (.head _)
    refine (string_nil w b T p (hw.own _ _ hm)).mono ?_
    rintro e w' ⟨rfl, rfl⟩
    refine ⟨_, M, rfl, ?_, rfl, rfl⟩
    obtain ⟨h1, ⟨_, h2, rfl⟩ | ⟨g, cap, cs, h2, _⟩⟩ := hr
    · exact (hw.left (A := [_]) (fun p hp => by rw [List.mem_singleton.1 hp]; exact hb)).drew
    · cases h2
  · obtain ⟨h1, ⟨_, h2, rfl⟩ | ⟨g, cap, cs, rfl, rfl, h3, h4, h5, h6, h7⟩⟩ := hr
    · exact absurd (List.eq_nil_of_length_eq_zero h2) he
    · refine (string_some w b T p bs he g cap cs (hw.own _ _ mem1) (hw.own _ _ mem0) h4 h5 (by omega) (by simpa using h7)).mono ?_
      rintro e w' ⟨rfl, rfl⟩
      refine ⟨_, M, rfl, ?_, rfl, rfl⟩
      have hnd := hw.nodup
      simp only [List.map_cons, List.nodup_cons, List.mem_cons, not_or] at hnd
      have hne : ∀ k, k ≠ g → (w.drew.freeze ⟨g, 0, none⟩ bs.length).heap[k]? = w.heap[k]? := fun k hk => by
        unfold World.freeze
        split
        · rfl
        · show (w.heap.modify g _)[k]? = _
          rw [Array.getElem?_modify, if_neg (fun h => hk h.symm)]
      have hsz : (w.drew.freeze ⟨g, 0, none⟩ bs.length).heap.size = w.heap.size := by
        unfold World.freeze
        split
        · rfl
        · show (w.heap.modify g _).size = _
          rw [Array.size_modify]
      have hos : (w.drew.freeze ⟨g, 0, none⟩ bs.length).os = w.os ∧ (w.drew.freeze ⟨g, 0, none⟩ bs.length).tape = w.tape ∧ (w.drew.freeze ⟨g, 0, none⟩ bs.length).output = w.output := by
        unfold World.freeze
        split <;> exact ⟨rfl, rfl, rfl⟩
      refine ⟨hos.1.trans hw.os, hos.2.1.trans hw.tape, hos.2.2.trans hw.output, by rw [hsz]; exact hw.size, fun k o hm => ?_, hnd.2.2, fun k hk hn => ?_⟩
      · have hkg : k ≠ g := fun e => by
          subst e
          exact hnd.1.2 (List.mem_map.2 ⟨_, hm, rfl⟩)
        rw [hne k hkg]
        exact hw.own k o (.tail _ (.tail _ hm))
      · rw [hne k (by omega)]
        exact hw.rest k hk (by
          simp only [List.map_cons, List.mem_cons, not_or]
          exact ⟨by omega, by omega, hn⟩)
end Go.Proofs.YtilejcofleeeiaaGreatDoor
