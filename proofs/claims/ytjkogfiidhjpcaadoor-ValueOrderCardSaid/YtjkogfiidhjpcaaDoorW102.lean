/- YtjkogfiidhjpcaaDoor: walks, part 102: the reference's: are two values the same; the hash of a value. -/
import Derived.Test.YtjkogfiidhjpcaaDoorW90
import Derived.Test.YtjkogfiidhjpcaaDoorW101
namespace Go.Proofs.YtjkogfiidhjpcaaDoor
open Go Go.K
set_option maxRecDepth 100000
set_option linter.unusedVariables false
set_option linter.unusedSimpArgs false
set_option maxHeartbeats 40000000
structure SrI (w0 : World) (b2 b3 : Nat) (x y : Vl) (xa ya : Option Addr) (xc yc : Nat) (i : Nat) (wb : World) (e : Env) (ds : List Deferred) (L : Own) : Prop where
  hw : wb = w0
  hds : ds = []
  o : L = [(b3, Obj.cells #[.bool y.nu, i64 y.num, str y.tx, .slice ya y.ls.length yc] 29 (0, 0)), (b2, Obj.cells #[.bool x.nu, i64 x.num, str x.tx, .slice xa x.ls.length xc] 29 (0, 0))]
  hi : i ≤ x.ls.length
  hr : sameL (x.ls.drop i) (y.ls.drop i) = sameL x.ls y.ls
  h2 : e 2 = .pointer (some ⟨b2, 0, none⟩)
  h3 : e 3 = .pointer (some ⟨b3, 0, none⟩)
  h5 : e 5 = i64 i
theorem sameR_all : ∀ (n : Nat) (w : World) (lo : Nat) (x y : Vl) (xa ya : Option Addr) (xc yc : Nat), SizeOf.sizeOf x ≤ n → lo ≤ w.heap.size → VAt w lo x xa xc → VAt w lo y ya yc →
    Calls Tryd.prog 11 #[.agg (x.cells xa xc).toArray, .agg (y.cells ya yc).toArray] w (Rets w (Is (.bool (sameV x y)))) := by
  intro n
  induction n with
  | zero => intro w lo x y xa ya xc yc hn; cases x; simp at hn
  | succ n ih =>
  intro w lo x y xa ya xc yc hn hlo hX hY
  have hbnd : x.ls.length ≤ 9223372036854775807 := Nat.le_trans hX.hc hX.hc2
  have hbndy : y.ls.length ≤ 9223372036854775807 := Nat.le_trans hY.hc hY.hc2
  refine enterT (args := [.agg (x.cells xa xc).toArray, .agg (y.cells ya yc).toArray]) Tryd.func11 rfl Tryd.ntmps11 (congrArg Array.toList Tryd.results11) (by kernel_rfl) (by simp) (Sy.refl w) ?_
  simp (disch := omega) only [push_cast, Nat.reduceEqDiff, Vl.cells]
  refine newI (fun b2 hb2 hn2 => ?_)
  simp (disch := omega) only [push_cast, Nat.reduceEqDiff, Vl.cells]
  refine newI (fun b3 hb3 hn3 => ?_)
  simp (disch := omega) only [push_cast, Nat.reduceEqDiff, Vl.cells]
  have hL : ∀ x y : Obj, ∀ p ∈ [(b3, x), (b2, y)], w.heap.size ≤ p.1 := fun x y p hp => by
    simp only [List.mem_cons, List.mem_nil_iff, or_false] at hp
    rcases hp with rfl | rfl
    · exact hb3
    · exact hb2
  refine ldOne Shp.eq mem1 rfl ?_
  simp (disch := omega) only [push_cast, Nat.reduceEqDiff]
  refine ldOne Shp.eq mem0 rfl ?_
  simp (disch := omega) only [push_cast, Nat.reduceEqDiff]
  refine guardX_bf rfl (fun g1 => ?_) (fun g1 => ?_)
  rotate_left
  · simp (disch := omega) only [push_cast, Nat.reduceEqDiff]
    rw [V_cond]
    simp (disch := omega) only [push_cast, Nat.reduceEqDiff]
    exact finIs (hL _ _) (congrArg Value.bool (by rw [sameV_eq]; rcases hx : x.nu <;> rcases hy : y.nu <;> simp_all))
  simp (disch := omega) only [push_cast, Nat.reduceEqDiff]
  refine ldOne Shp.eq mem1 rfl ?_
  simp (disch := omega) only [push_cast, Nat.reduceEqDiff]
  refine ldOne Shp.eq mem0 rfl ?_
  simp (disch := omega) only [push_cast, Nat.reduceEqDiff]
  refine guardX_f rfl (fun g2 => ?_) (fun g2 => ?_)
  rotate_left
  · simp (disch := omega) only [push_cast, Nat.reduceEqDiff]
    rw [V_cond]
    simp (disch := omega) only [push_cast, Nat.reduceEqDiff]
    exact finIs (hL _ _) (congrArg Value.bool (by rw [sameV_eq]; simp [g2]))
  simp (disch := omega) only [push_cast, Nat.reduceEqDiff]
  refine ldOne Shp.eq mem1 rfl ?_
  simp (disch := omega) only [push_cast, Nat.reduceEqDiff]
  refine ldOne Shp.eq mem0 rfl ?_
  simp (disch := omega) only [push_cast, Nat.reduceEqDiff]
  refine guardX_f rfl (fun g3 => ?_) (fun g3 => ?_)
  rotate_left
  · simp (disch := omega) only [push_cast, Nat.reduceEqDiff]
    rw [V_cond]
    simp (disch := omega) only [push_cast, Nat.reduceEqDiff]
    exact finIs (hL _ _) (congrArg Value.bool (by rw [sameV_eq]; simp [g3]))
  simp (disch := omega) only [push_cast, Nat.reduceEqDiff]
  refine ldOne Shp.eq mem1 rfl ?_
  simp (disch := omega) only [push_cast, Nat.reduceEqDiff]
  refine ldOne Shp.eq mem0 rfl ?_
  simp (disch := omega) only [push_cast, Nat.reduceEqDiff]
  rw [V_cond]
  simp (disch := omega) only [push_cast, Nat.reduceEqDiff]
  refine condX_d (fun g4 => ?_) (fun g4 => ?_)
  · simp (disch := omega) only [push_cast, Nat.reduceEqDiff]
    exact finIs (hL _ _) (congrArg Value.bool (by rw [sameV_eq, sameL_len (by omega)]; simp))
  have hres : sameV x y = sameL x.ls y.ls := by
    rw [sameV_eq]
    have e1 : (x.nu == y.nu) = true := by rcases hx : x.nu <;> rcases hy : y.nu <;> simp_all
    rw [e1, decide_eq_true (Decidable.not_not.1 g2), decide_eq_true (Decidable.not_not.1 g3)]
    simp
  refine forget (fun e => e 2 = .pointer (some ⟨b2, 0, none⟩) ∧ e 3 = .pointer (some ⟨b3, 0, none⟩)) ⟨rfl, rfl⟩ ?_
  rintro e ⟨h2, h3⟩
  simp (disch := omega) only [push_cast, Nat.reduceEqDiff, h2, h3]
  rw [V_block]
  simp (disch := omega) only [push_cast, Nat.reduceEqDiff, h2, h3]
  refine loopW (G := Nat) (SrI w b2 b3 x y xa ya xc yc) (fun i => x.ls.length - i) 0 _ (fun w hw => hw) (by kernel_rfl) ⟨rfl, rfl, rfl, by omega, rfl, h2, h3, rfl⟩ ?_
  clear h2 h3 e
  rintro i wb e ds L ⟨rfl, rfl, rfl, hi, hr, h2, h3, h5⟩
  simp (disch := omega) only [push_cast, Nat.reduceEqDiff, h2, h3, h5]
  refine ldOne Shp.eq mem1 rfl ?_
  simp (disch := omega) only [push_cast, Nat.reduceEqDiff, h2, h3, h5]
  rw [V_cond]
  simp (disch := omega) only [push_cast, Nat.reduceEqDiff, h2, h3, h5]
  refine condX_d (fun hlt => ?_) (fun hge => ?_)
  rotate_left
  · obtain rfl : i = x.ls.length := by omega
    simp (disch := omega) only [push_cast, Nat.reduceEqDiff, h2, h3, h5]
    exact finIs (hL _ _) (congrArg Value.bool (by rw [hres, ← hr, List.drop_length, List.drop_of_length_le (by omega)]; rfl))
  obtain ⟨p, hp⟩ : ∃ p, x.ls[i]? = some p := ⟨_, List.getElem?_eq_getElem (by omega)⟩
  obtain ⟨q, hq⟩ : ∃ q, y.ls[i]? = some q := ⟨_, List.getElem?_eq_getElem (by omega)⟩
  have hsz := Vl.size_get hp
  obtain ⟨pb, poff, pa, pc, rfl, p1, p2, p3⟩ := hX.get hp
  obtain ⟨qb, qoff, qa, qc, rfl, r1, r2, r3⟩ := hY.get hq
  simp (disch := omega) only [push_cast, Nat.reduceEqDiff, h2, h3, h5]
  rw [V_block]
  simp (disch := omega) only [push_cast, Nat.reduceEqDiff, h2, h3, h5]
  refine drawQT (by kernel_rfl) (by kernel_rfl) mixed (by kernel_rfl) ?_
  simp (disch := omega) only [push_cast, Nat.reduceEqDiff, h2, h3, h5]
  refine ldOne Shp.eq mem1 rfl ?_
  simp (disch := omega) only [push_cast, Nat.reduceEqDiff, h2, h3, h5]
  refine ldAggF Shp.eq p2 rfl (out_of (fun p hp => Nat.lt_of_lt_of_le (Nat.lt_of_lt_of_le p1 hlo) (hL _ _ p hp))) ?_
  simp (disch := omega) only [push_cast, Nat.reduceEqDiff, h2, h3, h5, Vl.cells]
  refine ldOne Shp.eq mem0 rfl ?_
  simp (disch := omega) only [push_cast, Nat.reduceEqDiff, h2, h3, h5]
  refine ldAggF Shp.eq r2 rfl (out_of (fun p hp => Nat.lt_of_lt_of_le (Nat.lt_of_lt_of_le r1 hlo) (hL _ _ p hp))) ?_
  simp (disch := omega) only [push_cast, Nat.reduceEqDiff, h2, h3, h5, Vl.cells]
  refine qcallV en_11 (qcallX_is (.bool (sameV p q)) (fun w' hw' => ih w' lo p q pa qa pc qc (by omega) (Nat.le_trans hlo hw'.size) (p3.sy hlo hw' (hL _ _)) (r3.sy hlo hw' (hL _ _))) ?_)
  simp (disch := omega) only [push_cast, Nat.reduceEqDiff, h2, h3, h5]
  rw [V_cond]
  simp (disch := omega) only [push_cast, Nat.reduceEqDiff, h2, h3, h5]
  refine condX_b (fun hne => ?_) (fun hne => ?_)
  · simp (disch := omega) only [push_cast, Nat.reduceEqDiff, h2, h3, h5]
    exact finIs (hL _ _) (congrArg Value.bool (by rw [Bool.not_eq_true'] at hne; rw [hres, ← hr, sameL_step hp hq, hne]; rfl))
  · simp (disch := omega) only [push_cast, Nat.reduceEqDiff, h2, h3, h5]
    rw [Bool.not_eq_false'] at hne
    refine ⟨i + 1, _, fun w hw => hw, ⟨rfl, rfl, rfl, by omega, by rw [← hr, sameL_step hp hq, hne]; rfl, h2, h3, by simp only [upd]; rfl⟩, by omega⟩
theorem mixed_walk (w : World) (h c : Int) : Calls Tryd.prog 57 #[.int .u64 h, .int .u8 c] w (Rets w (Is (.int .u64 (takeP h c)))) := by
  refine enterT (args := [.int .u64 h, .int .u8 c]) Tryd.func57 rfl Tryd.ntmps57 (congrArg Array.toList Tryd.results57) (by kernel_rfl) (by simp) (Sy.refl w) ?_
  simp (disch := omega) only [push_cast, Nat.reduceEqDiff]
  refine ⟨.int .u64 (bits .xor .u64 h (IntKind.u64.wrap c)), fun w => rfl, ?_⟩
  simp (disch := omega) only [push_cast, Nat.reduceEqDiff]
  exact finIs (by simp) rfl
structure MiI (w0 : World) (h x : Int) (i : Nat) (wb : World) (e : Env) (ds : List Deferred) (L : Own) : Prop where
  hw : wb = w0
  hds : ds = []
  o : L = []
  n : ∃ k y, e 0 = .int .u64 k ∧ e 1 = .int .u64 y ∧ numP (8 - i) k y = numP 8 h x ∧ 0 ≤ y ∧ y < 18446744073709551616
  hi : i ≤ 8
  h5 : e 5 = i64 i
theorem bin_quo256 {P : Program} {K : Value → Prop} (t : TypeId) (x y : Operand) (n : Int) (h0 : 0 ≤ n) (h1 : n < 18446744073709551616) : PureX P (binV .quo t x y (.int .u64 n) (.int .u64 256)) (tag K) = K (.int .u64 (n / 256)) := px (fun w => by
  have e : IntKind.u64.wrap (n.tdiv 256) = n / 256 := by rw [wrap_u64, Int.tdiv_eq_ediv_of_nonneg h0]; omega
  simp [binV, eqGuard, binOp, Op.intDiv, e]) K
theorem mixed8_walk (w : World) (h x : Int) (hx0 : 0 ≤ x) (hx1 : x < 18446744073709551616) : Calls Tryd.prog 58 #[.int .u64 h, .int .u64 x] w (Rets w (Is (.int .u64 (numP 8 h x)))) := by
  refine enterT (args := [.int .u64 h, .int .u64 x]) Tryd.func58 rfl Tryd.ntmps58 (congrArg Array.toList Tryd.results58) (by kernel_rfl) (by simp) (Sy.refl w) ?_
  simp (disch := omega) only [push_cast, Nat.reduceEqDiff]
  rw [V_block]
  simp (disch := omega) only [push_cast, Nat.reduceEqDiff]
  refine loopW (G := Nat) (MiI w h x) (fun i => 8 - i) 0 _ (fun w hw => hw) (by kernel_rfl) ⟨rfl, rfl, rfl, ⟨h, x, rfl, rfl, rfl, hx0, hx1⟩, by omega, rfl⟩ ?_
  rintro i wb e ds L ⟨rfl, rfl, rfl, ⟨k, y, h0, h1, hk, hy0, hy1⟩, hi, h5⟩
  simp (disch := omega) only [push_cast, Nat.reduceEqDiff, h0, h1, h5]
  rw [V_cond]
  simp (disch := omega) only [push_cast, Nat.reduceEqDiff, h0, h1, h5]
  refine condX_d (fun hlt => ?_) (fun hge => ?_)
  rotate_left
  · simp (disch := omega) only [push_cast, Nat.reduceEqDiff, h0, h1, h5]
    obtain rfl : i = 8 := by omega
    rw [show numP (8 - 8) k y = k from rfl] at hk
    exact finIs (by simp) (by rw [hk])
  simp (disch := omega) only [push_cast, Nat.reduceEqDiff, h0, h1, h5]
  rw [V_block]
  simp (disch := omega) only [push_cast, Nat.reduceEqDiff, h0, h1, h5]
  refine callV en_57 (callX_is (fun w' hw' => mixed_walk w' k _) ?_)
  simp (disch := omega) only [push_cast, Nat.reduceEqDiff, h0, h1, h5]
  rw [bin_quo256 _ _ _ _ hy0 hy1]
  simp (disch := omega) only [push_cast, Nat.reduceEqDiff, h0, h1, h5]
  refine ⟨i + 1, _, fun w hw => hw, ⟨rfl, rfl, rfl, ⟨_, _, rfl, by simp only [upd]; rfl, ?_, by omega, by omega⟩, by omega, by simp only [upd]; rfl⟩, by omega⟩
  rw [← hk, show 8 - i = (8 - (i + 1)) + 1 by omega, numP]
structure RbI (w0 : World) (b3 : Nat) (v : Vl) (va : Option Addr) (vc : Nat) (h : Int) (i : Nat) (wb : World) (e : Env) (ds : List Deferred) (L : Own) : Prop where
  hw : wb = w0
  hds : ds = []
  o : L = [(b3, Obj.cells #[.bool v.nu, i64 v.num, str v.tx, .slice va v.ls.length vc] 29 (0, 0))]
  n : ∃ k, e 0 = .int .u64 k ∧ bytesP (v.tx.drop i) k = bytesP v.tx h
  hi : i ≤ v.tx.length
  h3 : e 3 = .pointer (some ⟨b3, 0, none⟩)
  h6 : e 6 = i64 i
structure RlI (w0 : World) (b3 : Nat) (v : Vl) (va : Option Addr) (vc : Nat) (h : Int) (i : Nat) (wb : World) (e : Env) (ds : List Deferred) (L : Own) : Prop where
  hw : wb = w0
  hds : ds = []
  o : L = [(b3, Obj.cells #[.bool v.nu, i64 v.num, str v.tx, .slice va v.ls.length vc] 29 (0, 0))]
  n : ∃ k, e 0 = .int .u64 k ∧ hashL (v.ls.drop i) k = hashL v.ls h
  hi : i ≤ v.ls.length
  h3 : e 3 = .pointer (some ⟨b3, 0, none⟩)
  h7 : e 7 = i64 i
theorem hashedR_all : ∀ (n : Nat) (w : World) (lo : Nat) (h : Int) (v : Vl) (va : Option Addr) (vc : Nat), SizeOf.sizeOf v ≤ n → lo ≤ w.heap.size → VAt w lo v va vc →
    Calls Tryd.prog 31 #[.int .u64 h, .agg (v.cells va vc).toArray] w (Rets w (Is (.int .u64 (hashV v h)))) := by
  intro n
  induction n with
  | zero => intro w lo h v va vc hn; cases v; simp at hn
  | succ n ih =>
  intro w lo h v va vc hn hlo hV
  have hbnd : v.ls.length ≤ 9223372036854775807 := Nat.le_trans hV.hc hV.hc2
  have hbndt := hV.ht
  refine enterT (args := [.int .u64 h, .agg (v.cells va vc).toArray]) Tryd.func31 rfl Tryd.ntmps31 (congrArg Array.toList Tryd.results31) (by kernel_rfl) (by simp) (Sy.refl w) ?_
  simp (disch := omega) only [push_cast, Nat.reduceEqDiff, Vl.cells]
  refine newI (fun b3 hb3 hn3 => ?_)
  simp (disch := omega) only [push_cast, Nat.reduceEqDiff, Vl.cells]
  have hL : ∀ x : Obj, ∀ p ∈ [(b3, x)], w.heap.size ≤ p.1 := fun x p hp => by rw [List.mem_singleton.1 hp]; exact hb3
  refine ldOne Shp.eq mem0 rfl ?_
  simp (disch := omega) only [push_cast, Nat.reduceEqDiff]
  rw [V_cond]
  simp (disch := omega) only [push_cast, Nat.reduceEqDiff]
  refine condX_b (fun hnu => ?_) (fun hnu => ?_)
  all_goals
    simp (disch := omega) only [push_cast, Nat.reduceEqDiff]
    refine callV en_57 (callX_is (fun w' hw' => mixed_walk w' h _) ?_)
    simp (disch := omega) only [push_cast, Nat.reduceEqDiff]
    refine ldOne Shp.eq mem0 rfl ?_
    simp (disch := omega) only [push_cast, Nat.reduceEqDiff]
    refine callV en_58 (callX_is (fun w' hw' => mixed8_walk w' _ _ (num_of_u64 _).1 (num_of_u64 _).2) ?_)
    simp (disch := omega) only [push_cast, Nat.reduceEqDiff]
    refine ldOne Shp.eq mem0 rfl ?_
    simp (disch := omega) only [push_cast, Nat.reduceEqDiff]
    refine callV en_58 (callX_is (fun w' hw' => mixed8_walk w' _ _ (num_of_u64 _).1 (num_of_u64 _).2) ?_)
    simp (disch := omega) only [push_cast, Nat.reduceEqDiff]
    rw [V_block]
    simp (disch := omega) only [push_cast, Nat.reduceEqDiff]
    refine loopW (G := Nat) (RbI w b3 v va vc _) (fun i => v.tx.length - i) 0 _ (fun w hw => hw) (by kernel_rfl) ⟨rfl, rfl, rfl, ⟨_, rfl, rfl⟩, by omega, rfl, rfl⟩ ?_
    rintro i wb e ds L ⟨rfl, rfl, rfl, ⟨k, h0, hk⟩, hi, h3, h6⟩
    simp (disch := omega) only [push_cast, Nat.reduceEqDiff, h0, h3, h6]
    refine ldOne Shp.eq mem0 rfl ?_
    simp (disch := omega) only [push_cast, Nat.reduceEqDiff, h0, h3, h6]
    rw [V_cond]
    simp (disch := omega) only [push_cast, Nat.reduceEqDiff, h0, h3, h6]
    refine condX_d (fun hlt => ?_) (fun hge => ?_)
    · simp (disch := omega) only [push_cast, Nat.reduceEqDiff, h0, h3, h6]
      rw [V_block]
      simp (disch := omega) only [push_cast, Nat.reduceEqDiff, h0, h3, h6]
      refine ldOne Shp.eq mem0 rfl ?_
      simp (disch := omega) only [push_cast, Nat.reduceEqDiff, h0, h3, h6]
      refine callV en_57 (callX_is (fun w' hw' => mixed_walk w' k _) ?_)
      simp (disch := omega) only [push_cast, Nat.reduceEqDiff, h0, h3, h6]
      refine ⟨i + 1, _, fun w hw => hw, ⟨rfl, rfl, rfl, ⟨_, rfl, ?_⟩, by omega, h3, by simp only [upd]; rfl⟩, by omega⟩
      have hli : i < v.tx.length := by omega
      rw [← hk, List.drop_eq_getElem_cons hli, bytesP, show v.tx.getD i 0 = v.tx[i] by simp [List.getD, List.getElem?_eq_getElem hli]]
    obtain rfl : i = v.tx.length := by omega
    rw [List.drop_length, bytesP] at hk
    simp (disch := omega) only [push_cast, Nat.reduceEqDiff, h0, h3, h6]
    refine ldOne Shp.eq mem0 rfl ?_
    simp (disch := omega) only [push_cast, Nat.reduceEqDiff, h0, h3, h6]
    refine callV en_58 (callX_is (fun w' hw' => mixed8_walk w' _ _ (num_of_u64 _).1 (num_of_u64 _).2) ?_)
    simp (disch := omega) only [push_cast, Nat.reduceEqDiff, h0, h3, h6]
    rw [V_block]
    simp (disch := omega) only [push_cast, Nat.reduceEqDiff, h0, h3, h6]
    refine loopW (G := Nat) (RlI wb b3 v va vc _) (fun i => v.ls.length - i) 0 _ (fun w hw => hw) (by kernel_rfl) ⟨rfl, rfl, rfl, ⟨_, rfl, rfl⟩, by omega, h3, rfl⟩ ?_
    clear h0 h3 h6 e
    rintro i wb e ds L ⟨rfl, rfl, rfl, ⟨m, h0, hm⟩, hi, h3, h7⟩
    simp (disch := omega) only [push_cast, Nat.reduceEqDiff, h0, h3, h7]
    refine ldOne Shp.eq mem0 rfl ?_
    simp (disch := omega) only [push_cast, Nat.reduceEqDiff, h0, h3, h7]
    rw [V_cond]
    simp (disch := omega) only [push_cast, Nat.reduceEqDiff, h0, h3, h7]
    refine condX_d (fun hlt => ?_) (fun hge => ?_)
    rotate_left
    · obtain rfl : i = v.ls.length := by omega
      rw [List.drop_length, hashL] at hm
      simp (disch := omega) only [push_cast, Nat.reduceEqDiff, h0, h3, h7]
      have hv : hashV v h = m := by rw [hashV_eq, hnu, hm, hk]; rfl
      exact finIs (hL _) (by rw [hv])
    obtain ⟨p, hp⟩ : ∃ p, v.ls[i]? = some p := ⟨_, List.getElem?_eq_getElem (by omega)⟩
    have hsz := Vl.size_get hp
    obtain ⟨pb, poff, pa, pc, rfl, p1, p2, p3⟩ := hV.get hp
    simp (disch := omega) only [push_cast, Nat.reduceEqDiff, h0, h3, h7]
    rw [V_block]
    simp (disch := omega) only [push_cast, Nat.reduceEqDiff, h0, h3, h7]
    refine ldOne Shp.eq mem0 rfl ?_
    simp (disch := omega) only [push_cast, Nat.reduceEqDiff, h0, h3, h7]
    refine ldAggF Shp.eq p2 rfl (out_of (fun p hp => Nat.lt_of_lt_of_le (Nat.lt_of_lt_of_le p1 hlo) (hL _ p hp))) ?_
    simp (disch := omega) only [push_cast, Nat.reduceEqDiff, h0, h3, h7, Vl.cells]
    refine callV en_31 (callX_is (fun w' hw' => ih w' lo m p pa pc (by omega) (Nat.le_trans hlo hw'.size) (p3.sy hlo hw' (hL _))) ?_)
    simp (disch := omega) only [push_cast, Nat.reduceEqDiff, h0, h3, h7]
    refine ⟨i + 1, _, fun w hw => hw, ⟨rfl, rfl, rfl, ⟨_, rfl, ?_⟩, by omega, h3, by simp only [upd]; rfl⟩, by omega⟩
    obtain ⟨h1, rfl⟩ := List.getElem?_eq_some_iff.1 hp
    rw [← hm, List.drop_eq_getElem_cons h1, hashL]
theorem hashR_walk (w : World) (lo : Nat) (v : Vl) (va : Option Addr) (vc : Nat) (hlo : lo ≤ w.heap.size) (hV : VAt w lo v va vc) :
    Calls Tryd.prog 13 #[.agg (v.cells va vc).toArray] w (Rets w (Is (.int .u64 (hashP v)))) := by
  refine enterT (args := [.agg (v.cells va vc).toArray]) Tryd.func13 rfl Tryd.ntmps13 (congrArg Array.toList Tryd.results13) (by kernel_rfl) (by simp) (Sy.refl w) ?_
  simp (disch := omega) only [push_cast, Nat.reduceEqDiff, Vl.cells]
  refine newI (fun b1 hb1 hn1 => ?_)
  simp (disch := omega) only [push_cast, Nat.reduceEqDiff, Vl.cells]
  have hL : ∀ x : Obj, ∀ p ∈ [(b1, x)], w.heap.size ≤ p.1 := fun x p hp => by rw [List.mem_singleton.1 hp]; exact hb1
  refine loadX_agg Shp.eq mem0 rfl rfl ?_
  simp (disch := omega) only [push_cast, Nat.reduceEqDiff]
  refine callV en_31 (callX_is (fun w' hw' => hashedR_all _ w' lo _ v va vc (Nat.le_refl _) (Nat.le_trans hlo hw'.size) (hV.sy hlo hw' (hL _))) ?_)
  simp (disch := omega) only [push_cast, Nat.reduceEqDiff]
  exact finIs (hL _) rfl
end Go.Proofs.YtjkogfiidhjpcaaDoor
