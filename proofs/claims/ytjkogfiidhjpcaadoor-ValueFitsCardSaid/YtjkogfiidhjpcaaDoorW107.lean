/- YtjkogfiidhjpcaaDoor: walks, part 107: a twin is as it was made. -/
import Derived.Test.YtjkogfiidhjpcaaDoorW90
import Derived.Test.YtjkogfiidhjpcaaDoorW106
namespace Go.Proofs.YtjkogfiidhjpcaaDoor
open Go Go.K
set_option maxRecDepth 100000
set_option linter.unusedVariables false
set_option linter.unusedSimpArgs false
set_option maxHeartbeats 4000000
/-- A world holds these blocks. -/
def HoldsK (w : World) (K : Own) : Prop := ∀ p ∈ K, w.heap[p.1]? = some p.2
theorem HoldsK.sy {w w' : World} {K L : Own} (h : HoldsK w K) (hs : Sy w L w') (hL : ∀ p ∈ L, w.heap.size ≤ p.1) : HoldsK w' K := fun p hp => by
  have h1 := h p hp
  have hlt := (Array.getElem?_eq_some_iff.1 h1).1
  rw [hs.rest p.1 hlt (out_of fun q hq => Nat.lt_of_lt_of_le hlt (hL q hq))]
  exact h1
theorem HoldsK.of_sy {wb w : World} {K L : Own} (h : Sy wb L w) (hK : ∀ p ∈ K, p ∈ L) : HoldsK w K := fun p hp => h.own p.1 p.2 (hK p hp)
def StayOK (n : Nat) : Prop := ∀ (w : World) (lo : Nat) (K : Own) (v : Vl) (a va : Option Addr) (c vc : Nat), SizeOf.sizeOf v ≤ n → HoldsK w K → OwV v K a c → lo ≤ w.heap.size → VAt w lo v va vc →
  Calls Tryd.prog 14 #[.agg (v.cells a c).toArray, .agg (v.cells va vc).toArray] w (Rets w (Is (.bool true)))
def StaysOK (n : Nat) : Prop := ∀ (w : World) (lo : Nat) (K : Own) (v : Vl) (a va : Option Addr) (c vc : Nat), SizeOf.sizeOf v.ls ≤ n → HoldsK w K → OwV v K a c → lo ≤ w.heap.size → VAt w lo v va vc →
  Calls Tryd.prog 32 #[.slice a v.ls.length c, .slice va v.ls.length vc] w (Rets w (Is (.bool true)))
theorem KidV.get {i : Nat} {x : Vl} : ∀ {ls : List Vl} {K : Own} {cs : List Value}, KidV ls K cs → ls[i]? = some x → ∃ K1 a c, (∀ p ∈ K1, p ∈ K) ∧ OwV x K1 a c ∧ (cs.drop (i * 4)).take 4 = x.cells a c := by
  induction i with
  | zero =>
    intro ls K cs h hx
    cases ls with
    | nil => simp at hx
    | cons v l =>
      rw [KidV] at h
      obtain ⟨K1, K2, a, c, cs', rfl, rfl, h1, h2⟩ := h
      simp only [List.getElem?_cons_zero, Option.some.injEq] at hx
      subst hx
      exact ⟨K1, a, c, fun p hp => List.mem_append_left _ hp, h1, by simp [Vl.cells]⟩
  | succ i ih =>
    intro ls K cs h hx
    cases ls with
    | nil => simp at hx
    | cons v l =>
      rw [KidV] at h
      obtain ⟨K1, K2, a, c, cs', rfl, rfl, h1, h2⟩ := h
      obtain ⟨K3, a3, c3, q1, q2, q3⟩ := ih h2 (by simpa using hx)
      exact ⟨K3, a3, c3, fun p hp => List.mem_append_right _ (q1 p hp), q2, by rw [← q3, show (i + 1) * 4 = 4 + i * 4 by omega, ← List.drop_drop]; simp [Vl.cells]⟩
theorem stay_step (n : Nat) (hS : StaysOK n) : StayOK (n + 1) := by
  intro w lo K v a va c vc hn hK hO hlo hV
  have hsz : SizeOf.sizeOf v.ls ≤ n := by cases v; simp only [Vl.ls, Vl.mk.sizeOf_spec] at hn ⊢; omega
  refine enterT (args := [.agg (v.cells a c).toArray, .agg (v.cells va vc).toArray]) Tryd.func14 rfl Tryd.ntmps14 (congrArg Array.toList Tryd.results14) (by kernel_rfl) (by simp) (Sy.refl w) ?_
  simp (disch := omega) only [push_cast, Nat.reduceEqDiff, Vl.cells]
  refine newI (fun b2 hb2 hn2 => ?_)
  simp (disch := omega) only [push_cast, Nat.reduceEqDiff, Vl.cells]
  refine newI (fun b3 hb3 hn3 => ?_)
  simp (disch := omega) only [push_cast, Nat.reduceEqDiff, Vl.cells]
  have hL2 : ∀ x y : Obj, ∀ p ∈ [(b3, x), (b2, y)], w.heap.size ≤ p.1 := fun x y p hp => by
    simp only [List.mem_cons, List.mem_nil_iff, or_false] at hp
    rcases hp with rfl | rfl
    · exact hb3
    · exact hb2
  refine ldOne Shp.eq mem1 rfl ?_
  simp (disch := omega) only [push_cast, Nat.reduceEqDiff]
  refine ldOne Shp.eq mem0 rfl ?_
  simp (disch := omega) only [push_cast, Nat.reduceEqDiff]
  refine callV en_32 (callX_is (fun w' hw' => hS w' lo K v a va c vc hsz (hK.sy hw' (hL2 _ _)) hO (Nat.le_trans hlo hw'.size) (hV.sy hlo hw' (hL2 _ _))) ?_)
  simp (disch := omega) only [push_cast, Nat.reduceEqDiff]
  refine ldOne Shp.eq mem1 rfl ?_
  simp (disch := omega) only [push_cast, Nat.reduceEqDiff]
  refine ldOne Shp.eq mem0 rfl ?_
  simp (disch := omega) only [push_cast, Nat.reduceEqDiff, beq_self_eq_true]
  refine ldOne Shp.eq mem1 rfl ?_
  simp (disch := omega) only [push_cast, Nat.reduceEqDiff]
  refine ldOne Shp.eq mem0 rfl ?_
  simp (disch := omega) only [push_cast, Nat.reduceEqDiff, decide_true]
  refine ldOne Shp.eq mem1 rfl ?_
  simp (disch := omega) only [push_cast, Nat.reduceEqDiff]
  refine ldOne Shp.eq mem0 rfl ?_
  simp (disch := omega) only [push_cast, Nat.reduceEqDiff, decide_true]
  exact finIs (hL2 _ _) rfl
structure StI (w0 : World) (v : Vl) (a va : Option Addr) (c vc : Nat) (i : Nat) (wb : World) (e : Env) (ds : List Deferred) (L : Own) : Prop where
  hw : wb = w0
  hds : ds = []
  o : L = []
  hi : i ≤ v.ls.length
  h0 : e 0 = .slice a v.ls.length c
  h1 : e 1 = .slice va v.ls.length vc
  h5 : e 5 = i64 i
theorem stays_step (n : Nat) (hS : StayOK n) : StaysOK (n + 1) := by
  intro w lo K v a va c vc hn hK hO hlo hV
  obtain ⟨o1, o2, b, cs, rest, K', rfl, rfl, hkid, o3, o4, o5⟩ := (OwV_iff _ _ _ _).1 hO
  have hcl := hkid.len
  have hblk : w.heap[b]? = some (Obj.cells (cs ++ (marksC ++ rest)).toArray 29 (0, 0)) := hK (b, _) (.head _)
  have hbnd : v.ls.length ≤ 9223372036854775807 := by omega
  refine enterT (args := [.slice (some ⟨b, 0, none⟩) v.ls.length c, .slice va v.ls.length vc]) Tryd.func32 rfl Tryd.ntmps32 (congrArg Array.toList Tryd.results32) (by kernel_rfl) (by simp) (Sy.refl w) ?_
  simp (disch := omega) only [push_cast, Nat.reduceEqDiff, ne_eq, not_true_eq_false, decide_false]
  try
    rw [V_cond]
    simp (disch := omega) only [push_cast, Nat.reduceEqDiff, ne_eq, not_true_eq_false, decide_false]
  rw [V_block]
  simp (disch := omega) only [push_cast, Nat.reduceEqDiff]
  refine loopW (G := Nat) (StI w v (some ⟨b, 0, none⟩) va c vc) (fun i => v.ls.length - i) 0 _ (fun w hw => hw) (by kernel_rfl) ⟨rfl, rfl, rfl, by omega, rfl, rfl, rfl⟩ ?_
  rintro i wb e ds L ⟨rfl, rfl, rfl, hi, h0, h1, h5⟩
  simp (disch := omega) only [push_cast, Nat.reduceEqDiff, h0, h1, h5]
  rw [V_cond]
  simp (disch := omega) only [push_cast, Nat.reduceEqDiff, h0, h1, h5]
  refine condX_d (fun hlt => ?_) (fun hge => ?_)
  · obtain ⟨x, hx⟩ : ∃ x, v.ls[i]? = some x := ⟨_, List.getElem?_eq_getElem (by omega)⟩
    have hszx : SizeOf.sizeOf x ≤ n := by
      have h1 := List.sizeOf_lt_of_mem (List.mem_of_getElem? hx)
      omega
    obtain ⟨K1, xa, xc, k1, k2, k3⟩ := hkid.get hx
    obtain ⟨yb, yoff, ya, yc, rfl, y1, y2, y3⟩ := hV.get hx
    have hat : At wb b (i * 4) (x.cells xa xc) := ⟨_, _, _, hblk, by
      show (List.drop (i * 4) (cs ++ (marksC ++ rest))).take 4 = _
      rw [List.drop_append_of_le_length (by omega), List.take_append_of_le_length (by rw [List.length_drop]; omega), k3]⟩
    simp (disch := omega) only [push_cast, Nat.reduceEqDiff, h0, h1, h5]
    rw [V_block]
    simp (disch := omega) only [push_cast, Nat.reduceEqDiff, h0, h1, h5]
    refine drawQT (by kernel_rfl) (by kernel_rfl) mixed (by kernel_rfl) ?_
    simp (disch := omega) only [push_cast, Nat.reduceEqDiff, h0, h1, h5]
    refine ldAggF Shp.eq hat rfl (by simp) ?_
    simp (disch := omega) only [push_cast, Nat.reduceEqDiff, h0, h1, h5, Vl.cells]
    refine ldAggF Shp.eq y2 rfl (by simp) ?_
    simp (disch := omega) only [push_cast, Nat.reduceEqDiff, h0, h1, h5, Vl.cells]
    refine qcallV en_14 (qcallX_is (.bool true) (fun w' hw' => hS w' lo K1 x xa ya xc yc hszx (HoldsK.sy (fun p hp => hK p (.tail _ (k1 p hp))) hw' (by simp)) k2 (Nat.le_trans hlo hw'.size) (y3.sy hlo hw' (by simp))) ?_)
    simp (disch := omega) only [push_cast, Nat.reduceEqDiff, h0, h1, h5]
    try
      rw [V_cond]
      simp (disch := omega) only [push_cast, Nat.reduceEqDiff, h0, h1, h5]
    try
      refine condX_b (fun h => by cases h) (fun _ => ?_)
      simp (disch := omega) only [push_cast, Nat.reduceEqDiff, h0, h1, h5]
    exact ⟨i + 1, _, fun w hw => hw, ⟨rfl, rfl, rfl, by omega, h0, h1, by simp only [upd]; rfl⟩, by omega⟩
  · obtain rfl : i = v.ls.length := by omega
    simp (disch := omega) only [push_cast, Nat.reduceEqDiff, h0, h1, h5]
    have m7 : At wb b (v.ls.length * 4 + 1) [i64 (-7)] := ⟨_, _, _, hblk, by
      show (List.drop (v.ls.length * 4 + 1) (cs ++ (marksC ++ rest))).take 1 = _
      rw [← hcl, ← List.drop_drop, List.drop_left]; rfl⟩
    have m8 : At wb b (v.ls.length * 4 + 5) [i64 (-8)] := ⟨_, _, _, hblk, by
      show (List.drop (v.ls.length * 4 + 5) (cs ++ (marksC ++ rest))).take 1 = _
      rw [← hcl, ← List.drop_drop, List.drop_left]; rfl⟩
    refine ldF Shp.eq m7 (by simp) ?_
    simp (disch := omega) only [push_cast, Nat.reduceEqDiff, h0, h1, h5]
    refine guardX_t rfl (fun _ => ?_) (fun h => absurd trivial h)
    simp (disch := omega) only [push_cast, Nat.reduceEqDiff, h0, h1, h5]
    refine ldF Shp.eq (v := i64 (-8)) (by rw [show ((v.ls.length : Int) + 1).toNat * 4 + 1 = v.ls.length * 4 + 5 by omega]; exact m8) (by simp) ?_
    simp (disch := omega) only [push_cast, Nat.reduceEqDiff, h0, h1, h5]
    exact finIs (by simp) rfl
theorem stay_all : ∀ n, StayOK n ∧ StaysOK n := by
  intro n
  induction n with
  | zero =>
    refine ⟨fun w lo K v a va c vc hn => ?_, fun w lo K v a va c vc hn => ?_⟩
    · cases v; simp at hn
    · cases hl : v.ls <;> rw [hl] at hn <;> simp at hn
  | succ n ih => exact ⟨stay_step n ih.2, stays_step n ih.1⟩
theorem stays_walk (w : World) (lo : Nat) (K : Own) (v : Vl) (a va : Option Addr) (c vc : Nat) (hK : HoldsK w K) (hO : OwV v K a c) (hlo : lo ≤ w.heap.size) (hV : VAt w lo v va vc) :
    Calls Tryd.prog 14 #[.agg (v.cells a c).toArray, .agg (v.cells va vc).toArray] w (Rets w (Is (.bool true))) := (stay_all _).1 w lo K v a va c vc (Nat.le_refl _) hK hO hlo hV
end Go.Proofs.YtjkogfiidhjpcaaDoor
