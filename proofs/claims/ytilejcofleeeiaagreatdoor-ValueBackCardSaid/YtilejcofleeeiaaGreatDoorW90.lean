/- YtilejcofleeeiaaGreatDoor: walks, part 89: are two values the same. -/
import Derived.Test.YtilejcofleeeiaaGreatDoorW85
namespace Go.Proofs.YtilejcofleeeiaaGreatDoor
open Go Go.K
set_option maxRecDepth 100000
set_option linter.unusedVariables false
set_option linter.unusedSimpArgs false
set_option maxHeartbeats 2000000
mutual
/-- Are two values the same? -/
def sameV : Vl → Vl → Bool
  | .mk n1 z1 t1 l1, .mk n2 z2 t2 l2 => (n1 == n2) && (decide (z1 = z2) && (decide (t1 = t2) && sameL l1 l2))
def sameL : List Vl → List Vl → Bool
  | [], [] => true
  | x :: xs, y :: ys => sameV x y && sameL xs ys
  | [], _ :: _ => false
  | _ :: _, [] => false
end
theorem sameV_eq (a b : Vl) : sameV a b = ((a.nu == b.nu) && (decide (a.num = b.num) && (decide (a.tx = b.tx) && sameL a.ls b.ls))) := by
  cases a; cases b; rw [sameV]; rfl
mutual
theorem sameV_iff : ∀ (a b : Vl), sameV a b = true ↔ a = b
  | .mk n1 z1 t1 l1, .mk n2 z2 t2 l2 => by
    rw [sameV, Vl.mk.injEq, ← sameL_iff l1 l2]
    simp
theorem sameL_iff : ∀ (a b : List Vl), sameL a b = true ↔ a = b
  | [], [] => by simp [sameL]
  | x :: xs, y :: ys => by rw [sameL, List.cons.injEq, ← sameL_iff xs ys, ← sameV_iff x y]; simp
  | [], _ :: _ => by simp [sameL]
  | _ :: _, [] => by simp [sameL]
end
theorem sameL_len {a b : List Vl} (h : a.length ≠ b.length) : sameL a b = false := by
  rcases hb : sameL a b with _ | _
  · rfl
  · rw [sameL_iff] at hb; exact absurd (congrArg List.length hb) h
theorem sameL_step {i : Nat} {la lb : List Vl} {x y : Vl} (hx : la[i]? = some x) (hy : lb[i]? = some y) : sameL (la.drop i) (lb.drop i) = (sameV x y && sameL (la.drop (i + 1)) (lb.drop (i + 1))) := by
  obtain ⟨h1, rfl⟩ := List.getElem?_eq_some_iff.1 hx
  obtain ⟨h2, rfl⟩ := List.getElem?_eq_some_iff.1 hy
  rw [List.drop_eq_getElem_cons h1, List.drop_eq_getElem_cons h2, sameL]
theorem Vl.size_get {v x : Vl} {i : Nat} (h : v.ls[i]? = some x) : SizeOf.sizeOf x < SizeOf.sizeOf v := by
  have h1 := List.sizeOf_lt_of_mem (List.mem_of_getElem? h)
  cases v
  simp only [Vl.ls, Vl.mk.sizeOf_spec] at h1 ⊢
  omega
structure SaI (w0 : World) (b2 b3 : Nat) (x y : Vl) (xa ya : Option Addr) (xc yc : Nat) (i : Nat) (wb : World) (e : Env) (ds : List Deferred) (L : Own) : Prop where
  hw : wb = w0
  hds : ds = []
  o : L = [(b3, Obj.cells #[.bool y.nu, i64 y.num, str y.tx, .slice ya y.ls.length yc] 29 (0, 0)), (b2, Obj.cells #[.bool x.nu, i64 x.num, str x.tx, .slice xa x.ls.length xc] 29 (0, 0))]
  hi : i ≤ x.ls.length
  hr : sameL (x.ls.drop i) (y.ls.drop i) = sameL x.ls y.ls
  h2 : e 2 = .pointer (some ⟨b2, 0, none⟩)
  h3 : e 3 = .pointer (some ⟨b3, 0, none⟩)
  h36 : e 36 = i64 x.ls.length
  h37 : e 37 = i64 i
theorem same_all : ∀ (n : Nat) (w : World) (lo : Nat) (x y : Vl) (xa ya : Option Addr) (xc yc : Nat), SizeOf.sizeOf x ≤ n → lo ≤ w.heap.size → VAt w lo x xa xc → VAt w lo y ya yc →
    Calls Tryz.prog 17 #[.agg (x.cells xa xc).toArray, .agg (y.cells ya yc).toArray] w (Rets w (Is (.bool (sameV x y)))) := by
  intro n
  induction n with
  | zero => intro w lo x y xa ya xc yc hn; cases x; simp at hn
  | succ n ih =>
  intro w lo x y xa ya xc yc hn hlo hX hY
  have hbnd : x.ls.length ≤ 9223372036854775807 := Nat.le_trans hX.hc hX.hc2
  have hbndy : y.ls.length ≤ 9223372036854775807 := Nat.le_trans hY.hc hY.hc2
  refine enterT (args := [.agg (x.cells xa xc).toArray, .agg (y.cells ya yc).toArray]) Tryz.func17 rfl Tryz.ntmps17 (congrArg Array.toList Tryz.results17) (by kernel_rfl) (by simp) (Sy.refl w) ?_
  simp (disch := omega) only [push_cast, Nat.reduceEqDiff, Vl.cells]
  refine newI (fun b2 hb2 hn2 => ?_)
  simp (disch := omega) only [push_cast, Nat.reduceEqDiff, Vl.cells]
  refine newI (fun b3 hb3 hn3 => ?_)
  simp (disch := omega) only [push_cast, Nat.reduceEqDiff, Vl.cells]
  have hL : ∀ x y : Obj, ∀ p ∈ [(b3, x), (b2, y)], w.heap.size ≤ p.1 := fun x y p hp => by
    simp only [List.mem_cons, List.mem_nil_iff, or_false] at hp
    rcases hp with rfl | rfl
    · exact hb3
    · exact hb2
  refine ldOne Shp.eq mem1 rfl ?_
  simp (disch := omega) only [push_cast, Nat.reduceEqDiff]
  refine ldOne Shp.eq mem0 rfl ?_
  simp (disch := omega) only [push_cast, Nat.reduceEqDiff]
  refine guardX_bf rfl (fun hn1 => ?_) (fun hn1 => ?_)
  rotate_left
  · simp (disch := omega) only [push_cast, Nat.reduceEqDiff]
    rw [V_cond]
    simp (disch := omega) only [push_cast, Nat.reduceEqDiff]
    exact finIs (hL _ _) (congrArg Value.bool (by rw [sameV_eq, show (x.nu == y.nu) = false by simpa [bne] using hn1]; rfl))
  have hnu : (x.nu == y.nu) = true := by simpa [bne] using hn1
  simp (disch := omega) only [push_cast, Nat.reduceEqDiff]
  refine ldOne Shp.eq mem1 rfl ?_
  simp (disch := omega) only [push_cast, Nat.reduceEqDiff]
  refine ldOne Shp.eq mem0 rfl ?_
  simp (disch := omega) only [push_cast, Nat.reduceEqDiff]
  refine guardX_f rfl (fun hn2 => ?_) (fun hn2 => ?_)
  rotate_left
  · simp (disch := omega) only [push_cast, Nat.reduceEqDiff]
    rw [V_cond]
    simp (disch := omega) only [push_cast, Nat.reduceEqDiff]
    exact finIs (hL _ _) (congrArg Value.bool (by rw [sameV_eq, decide_eq_false hn2, hnu]; rfl))
  have hnm : x.num = y.num := Decidable.not_not.1 hn2
  simp (disch := omega) only [push_cast, Nat.reduceEqDiff]
  refine ldOne Shp.eq mem1 rfl ?_
  simp (disch := omega) only [push_cast, Nat.reduceEqDiff]
  refine ldOne Shp.eq mem0 rfl ?_
  simp (disch := omega) only [push_cast, Nat.reduceEqDiff]
  refine guardX_f rfl (fun hn3 => ?_) (fun hn3 => ?_)
  rotate_left
  · simp (disch := omega) only [push_cast, Nat.reduceEqDiff]
    rw [V_cond]
    simp (disch := omega) only [push_cast, Nat.reduceEqDiff]
    exact finIs (hL _ _) (congrArg Value.bool (by rw [sameV_eq, decide_eq_false hn3, hnu, decide_eq_true hnm]; rfl))
  have hnt : x.tx = y.tx := Decidable.not_not.1 hn3
  simp (disch := omega) only [push_cast, Nat.reduceEqDiff]
  refine ldOne Shp.eq mem1 rfl ?_
  simp (disch := omega) only [push_cast, Nat.reduceEqDiff]
  refine ldOne Shp.eq mem0 rfl ?_
  simp (disch := omega) only [push_cast, Nat.reduceEqDiff]
  rw [V_cond]
  simp (disch := omega) only [push_cast, Nat.reduceEqDiff]
  refine condX_d (fun hn4 => ?_) (fun hn4 => ?_)
  · simp (disch := omega) only [push_cast, Nat.reduceEqDiff]
    exact finIs (hL _ _) (congrArg Value.bool (by rw [sameV_eq, sameL_len (by omega), hnu, decide_eq_true hnm, decide_eq_true hnt]; rfl))
  have hlen : x.ls.length = y.ls.length := by omega
  have hres : sameV x y = sameL x.ls y.ls := by rw [sameV_eq, hnu, decide_eq_true hnm, decide_eq_true hnt]; rfl
  simp (disch := omega) only [push_cast, Nat.reduceEqDiff]
  refine ldOne Shp.eq mem1 rfl ?_
  simp (disch := omega) only [push_cast, Nat.reduceEqDiff]
  refine forget (fun e => e 2 = .pointer (some ⟨b2, 0, none⟩) ∧ e 3 = .pointer (some ⟨b3, 0, none⟩) ∧ e 36 = i64 x.ls.length ∧ e 37 = i64 0) ⟨rfl, rfl, rfl, rfl⟩ ?_
  rintro e ⟨h2, h3, h36, h37⟩
  rw [V_block]
  simp (disch := omega) only [push_cast, Nat.reduceEqDiff, h2, h3, h36, h37]
  refine loopW (G := Nat) (SaI w b2 b3 x y xa ya xc yc) (fun i => x.ls.length - i) 0 _ (fun w hw => hw) (by kernel_rfl) ⟨rfl, rfl, rfl, by omega, rfl, h2, h3, h36, by simpa using h37⟩ ?_
  clear h2 h3 h36 h37 e
  rintro i wb e ds L ⟨rfl, rfl, rfl, hi, hr, h2, h3, h36, h37⟩
  simp (disch := omega) only [push_cast, Nat.reduceEqDiff, h2, h3, h36, h37]
  rw [V_cond]
  simp (disch := omega) only [push_cast, Nat.reduceEqDiff, h2, h3, h36, h37]
  refine condX_d (fun hlt => ?_) (fun hge => ?_)
  rotate_left
  · simp (disch := omega) only [push_cast, Nat.reduceEqDiff, h2, h3, h36, h37]
    obtain rfl : i = x.ls.length := by omega
    rw [List.drop_length, hlen, List.drop_length] at hr
    exact finIs (hL _ _) (congrArg Value.bool (by rw [hres, ← hr]; rfl))
  have hlx : i < x.ls.length := by omega
  have hly : i < y.ls.length := by omega
  obtain ⟨p, hp⟩ : ∃ p, x.ls[i]? = some p := ⟨_, List.getElem?_eq_getElem hlx⟩
  obtain ⟨q, hq⟩ : ∃ q, y.ls[i]? = some q := ⟨_, List.getElem?_eq_getElem hly⟩
  have hsz := Vl.size_get hp
  obtain ⟨pb, poff, pa, pc, rfl, p1, p2, p3⟩ := hX.get hp
  obtain ⟨qb, qoff, qa, qc, rfl, r1, r2, r3⟩ := hY.get hq
  simp (disch := omega) only [push_cast, Nat.reduceEqDiff, h2, h3, h36, h37]
  rw [V_block]
  simp (disch := omega) only [push_cast, Nat.reduceEqDiff, h2, h3, h36, h37]
  refine drawQT (by kernel_rfl) (by kernel_rfl) mixed (by kernel_rfl) ?_
  simp (disch := omega) only [push_cast, Nat.reduceEqDiff, h2, h3, h36, h37]
  refine ldOne Shp.eq mem1 rfl ?_
  simp (disch := omega) only [push_cast, Nat.reduceEqDiff, h2, h3, h36, h37]
  refine ldAggF Shp.eq p2 rfl (out_of (fun p hp => Nat.lt_of_lt_of_le (Nat.lt_of_lt_of_le p1 hlo) (hL _ _ p hp))) ?_
  simp (disch := omega) only [push_cast, Nat.reduceEqDiff, h2, h3, h36, h37, Vl.cells]
  refine ldOne Shp.eq mem0 rfl ?_
  simp (disch := omega) only [push_cast, Nat.reduceEqDiff, h2, h3, h36, h37]
  refine ldAggF Shp.eq r2 rfl (out_of (fun p hp => Nat.lt_of_lt_of_le (Nat.lt_of_lt_of_le r1 hlo) (hL _ _ p hp))) ?_
  simp (disch := omega) only [push_cast, Nat.reduceEqDiff, h2, h3, h36, h37, Vl.cells]
  refine qcallV en_17 (qcallX_is (.bool (sameV p q)) (fun w' hw' => ih w' lo p q pa qa pc qc (by omega) (Nat.le_trans hlo hw'.size) (p3.sy hlo hw' (hL _ _)) (r3.sy hlo hw' (hL _ _))) ?_)
  simp (disch := omega) only [push_cast, Nat.reduceEqDiff, h2, h3, h36, h37]
  rw [V_cond]
  simp (disch := omega) only [push_cast, Nat.reduceEqDiff, h2, h3, h36, h37]
  refine condX_b (fun hne => ?_) (fun hne => ?_)
  · simp (disch := omega) only [push_cast, Nat.reduceEqDiff, h2, h3, h36, h37]
    exact finIs (hL _ _) (congrArg Value.bool (by rw [Bool.not_eq_true'] at hne; rw [hres, ← hr, sameL_step hp hq, hne]; rfl))
  · simp (disch := omega) only [push_cast, Nat.reduceEqDiff, h2, h3, h36, h37]
    rw [Bool.not_eq_false'] at hne
    refine ⟨i + 1, _, fun w hw => hw, ⟨rfl, rfl, rfl, by omega, by rw [← hr, sameL_step hp hq, hne]; rfl, h2, h3, h36, by simp only [upd]; rfl⟩, by omega⟩
end Go.Proofs.YtilejcofleeeiaaGreatDoor
/- YtilejcofleeeiaaGreatDoor: walks, part 144: Same of the reference. -/
namespace Go.Proofs.YtilejcofleeeiaaGreatDoor
open Go Go.K
set_option maxRecDepth 100000
set_option linter.unusedVariables false
set_option linter.unusedSimpArgs false
set_option maxHeartbeats 40000000
structure SrI (w0 : World) (b2 b3 : Nat) (x y : Vl) (xa ya : Option Addr) (xc yc : Nat) (i : Nat) (wb : World) (e : Env) (ds : List Deferred) (L : Own) : Prop where
  hw : wb = w0
  hds : ds = []
  o : L = [(b3, Obj.cells #[.bool y.nu, i64 y.num, str y.tx, .slice ya y.ls.length yc] 29 (0, 0)), (b2, Obj.cells #[.bool x.nu, i64 x.num, str x.tx, .slice xa x.ls.length xc] 29 (0, 0))]
  hi : i ≤ x.ls.length
  hr : sameL (x.ls.drop i) (y.ls.drop i) = sameL x.ls y.ls
  h2 : e 2 = .pointer (some ⟨b2, 0, none⟩)
  h3 : e 3 = .pointer (some ⟨b3, 0, none⟩)
  h5 : e 5 = i64 i
theorem sameR_all : ∀ (n : Nat) (w : World) (lo : Nat) (x y : Vl) (xa ya : Option Addr) (xc yc : Nat), SizeOf.sizeOf x ≤ n → lo ≤ w.heap.size → VAt w lo x xa xc → VAt w lo y ya yc →
    Calls Tryz.prog 13 #[.agg (x.cells xa xc).toArray, .agg (y.cells ya yc).toArray] w (Rets w (Is (.bool (sameV x y)))) := by
  intro n
  induction n with
  | zero => intro w lo x y xa ya xc yc hn; cases x; simp at hn
  | succ n ih =>
  intro w lo x y xa ya xc yc hn hlo hX hY
  have hbnd : x.ls.length ≤ 9223372036854775807 := Nat.le_trans hX.hc hX.hc2
  have hbndy : y.ls.length ≤ 9223372036854775807 := Nat.le_trans hY.hc hY.hc2
  refine enterT (args := [.agg (x.cells xa xc).toArray, .agg (y.cells ya yc).toArray]) Tryz.func13 rfl Tryz.ntmps13 (congrArg Array.toList Tryz.results13) (by kernel_rfl) (by simp) (Sy.refl w) ?_
  simp (disch := omega) only [push_cast, Nat.reduceEqDiff, Vl.cells]
  refine newI (fun b2 hb2 hn2 => ?_)
  simp (disch := omega) only [push_cast, Nat.reduceEqDiff, Vl.cells]
  refine newI (fun b3 hb3 hn3 => ?_)
  simp (disch := omega) only [push_cast, Nat.reduceEqDiff, Vl.cells]
  have hL : ∀ x y : Obj, ∀ p ∈ [(b3, x), (b2, y)], w.heap.size ≤ p.1 := fun x y p hp => by
    simp only [List.mem_cons, List.mem_nil_iff, or_false] at hp
    rcases hp with rfl | rfl
    · exact hb3
    · exact hb2
  refine ldOne Shp.eq mem1 rfl ?_
  simp (disch := omega) only [push_cast, Nat.reduceEqDiff]
  refine ldOne Shp.eq mem0 rfl ?_
  simp (disch := omega) only [push_cast, Nat.reduceEqDiff]
  refine guardX_bf rfl (fun g1 => ?_) (fun g1 => ?_)
  rotate_left
  · simp (disch := omega) only [push_cast, Nat.reduceEqDiff]
    rw [V_cond]
    simp (disch := omega) only [push_cast, Nat.reduceEqDiff]
    exact finIs (hL _ _) (congrArg Value.bool (by rw [sameV_eq]; rcases hx : x.nu <;> rcases hy : y.nu <;> simp_all))
  simp (disch := omega) only [push_cast, Nat.reduceEqDiff]
  refine ldOne Shp.eq mem1 rfl ?_
  simp (disch := omega) only [push_cast, Nat.reduceEqDiff]
  refine ldOne Shp.eq mem0 rfl ?_
  simp (disch := omega) only [push_cast, Nat.reduceEqDiff]
  refine guardX_f rfl (fun g2 => ?_) (fun g2 => ?_)
  rotate_left
  · simp (disch := omega) only [push_cast, Nat.reduceEqDiff]
    rw [V_cond]
    simp (disch := omega) only [push_cast, Nat.reduceEqDiff]
    exact finIs (hL _ _) (congrArg Value.bool (by rw [sameV_eq]; simp [g2]))
  simp (disch := omega) only [push_cast, Nat.reduceEqDiff]
  refine ldOne Shp.eq mem1 rfl ?_
  simp (disch := omega) only [push_cast, Nat.reduceEqDiff]
  refine ldOne Shp.eq mem0 rfl ?_
  simp (disch := omega) only [push_cast, Nat.reduceEqDiff]
  refine guardX_f rfl (fun g3 => ?_) (fun g3 => ?_)
  rotate_left
  · simp (disch := omega) only [push_cast, Nat.reduceEqDiff]
    rw [V_cond]
    simp (disch := omega) only [push_cast, Nat.reduceEqDiff]
    exact finIs (hL _ _) (congrArg Value.bool (by rw [sameV_eq]; simp [g3]))
  simp (disch := omega) only [push_cast, Nat.reduceEqDiff]
  refine ldOne Shp.eq mem1 rfl ?_
  simp (disch := omega) only [push_cast, Nat.reduceEqDiff]
  refine ldOne Shp.eq mem0 rfl ?_
  simp (disch := omega) only [push_cast, Nat.reduceEqDiff]
  rw [V_cond]
  simp (disch := omega) only [push_cast, Nat.reduceEqDiff]
  refine condX_d (fun g4 => ?_) (fun g4 => ?_)
  · simp (disch := omega) only [push_cast, Nat.reduceEqDiff]
    exact finIs (hL _ _) (congrArg Value.bool (by rw [sameV_eq, sameL_len (by omega)]; simp))
  have hres : sameV x y = sameL x.ls y.ls := by
    rw [sameV_eq]
    have e1 : (x.nu == y.nu) = true := by rcases hx : x.nu <;> rcases hy : y.nu <;> simp_all
    rw [e1, decide_eq_true (Decidable.not_not.1 g2), decide_eq_true (Decidable.not_not.1 g3)]
    simp
  refine forget (fun e => e 2 = .pointer (some ⟨b2, 0, none⟩) ∧ e 3 = .pointer (some ⟨b3, 0, none⟩)) ⟨rfl, rfl⟩ ?_
  rintro e ⟨h2, h3⟩
  simp (disch := omega) only [push_cast, Nat.reduceEqDiff, h2, h3]
  rw [V_block]
  simp (disch := omega) only [push_cast, Nat.reduceEqDiff, h2, h3]
  refine loopW (G := Nat) (SrI w b2 b3 x y xa ya xc yc) (fun i => x.ls.length - i) 0 _ (fun w hw => hw) (by kernel_rfl) ⟨rfl, rfl, rfl, by omega, rfl, h2, h3, rfl⟩ ?_
  clear h2 h3 e
  rintro i wb e ds L ⟨rfl, rfl, rfl, hi, hr, h2, h3, h5⟩
  simp (disch := omega) only [push_cast, Nat.reduceEqDiff, h2, h3, h5]
  refine ldOne Shp.eq mem1 rfl ?_
  simp (disch := omega) only [push_cast, Nat.reduceEqDiff, h2, h3, h5]
  rw [V_cond]
  simp (disch := omega) only [push_cast, Nat.reduceEqDiff, h2, h3, h5]
  refine condX_d (fun hlt => ?_) (fun hge => ?_)
  rotate_left
  · obtain rfl : i = x.ls.length := by omega
    simp (disch := omega) only [push_cast, Nat.reduceEqDiff, h2, h3, h5]
    exact finIs (hL _ _) (congrArg Value.bool (by rw [hres, ← hr, List.drop_length, List.drop_of_length_le (by omega)]; rfl))
  obtain ⟨p, hp⟩ : ∃ p, x.ls[i]? = some p := ⟨_, List.getElem?_eq_getElem (by omega)⟩
  obtain ⟨q, hq⟩ : ∃ q, y.ls[i]? = some q := ⟨_, List.getElem?_eq_getElem (by omega)⟩
  have hsz := Vl.size_get hp
  obtain ⟨pb, poff, pa, pc, rfl, p1, p2, p3⟩ := hX.get hp
  obtain ⟨qb, qoff, qa, qc, rfl, r1, r2, r3⟩ := hY.get hq
  simp (disch := omega) only [push_cast, Nat.reduceEqDiff, h2, h3, h5]
  rw [V_block]
  simp (disch := omega) only [push_cast, Nat.reduceEqDiff, h2, h3, h5]
  refine drawQT (by kernel_rfl) (by kernel_rfl) mixed (by kernel_rfl) ?_
  simp (disch := omega) only [push_cast, Nat.reduceEqDiff, h2, h3, h5]
  refine ldOne Shp.eq mem1 rfl ?_
  simp (disch := omega) only [push_cast, Nat.reduceEqDiff, h2, h3, h5]
  refine ldAggF Shp.eq p2 rfl (out_of (fun p hp => Nat.lt_of_lt_of_le (Nat.lt_of_lt_of_le p1 hlo) (hL _ _ p hp))) ?_
  simp (disch := omega) only [push_cast, Nat.reduceEqDiff, h2, h3, h5, Vl.cells]
  refine ldOne Shp.eq mem0 rfl ?_
  simp (disch := omega) only [push_cast, Nat.reduceEqDiff, h2, h3, h5]
  refine ldAggF Shp.eq r2 rfl (out_of (fun p hp => Nat.lt_of_lt_of_le (Nat.lt_of_lt_of_le r1 hlo) (hL _ _ p hp))) ?_
  simp (disch := omega) only [push_cast, Nat.reduceEqDiff, h2, h3, h5, Vl.cells]
  refine qcallV en_13 (qcallX_is (.bool (sameV p q)) (fun w' hw' => ih w' lo p q pa qa pc qc (by omega) (Nat.le_trans hlo hw'.size) (p3.sy hlo hw' (hL _ _)) (r3.sy hlo hw' (hL _ _))) ?_)
  simp (disch := omega) only [push_cast, Nat.reduceEqDiff, h2, h3, h5]
  rw [V_cond]
  simp (disch := omega) only [push_cast, Nat.reduceEqDiff, h2, h3, h5]
  refine condX_b (fun hne => ?_) (fun hne => ?_)
  · simp (disch := omega) only [push_cast, Nat.reduceEqDiff, h2, h3, h5]
    exact finIs (hL _ _) (congrArg Value.bool (by rw [Bool.not_eq_true'] at hne; rw [hres, ← hr, sameL_step hp hq, hne]; rfl))
  · simp (disch := omega) only [push_cast, Nat.reduceEqDiff, h2, h3, h5]
    rw [Bool.not_eq_false'] at hne
    refine ⟨i + 1, _, fun w hw => hw, ⟨rfl, rfl, rfl, by omega, by rw [← hr, sameL_step hp hq, hne]; rfl, h2, h3, by simp only [upd]; rfl⟩, by omega⟩
end Go.Proofs.YtilejcofleeeiaaGreatDoor
