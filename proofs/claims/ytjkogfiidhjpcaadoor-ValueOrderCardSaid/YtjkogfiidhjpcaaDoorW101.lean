/- YtjkogfiidhjpcaaDoor: walks, part 101: the reference's order. -/
import Derived.Test.YtjkogfiidhjpcaaDoorW88
import Derived.Test.YtjkogfiidhjpcaaDoorW91
import Derived.Test.YtjkogfiidhjpcaaDoorW100
namespace Go.Proofs.YtjkogfiidhjpcaaDoor
open Go Go.K
set_option maxRecDepth 100000
set_option linter.unusedVariables false
set_option linter.unusedSimpArgs false
set_option maxHeartbeats 40000000
theorem condI {c : Cfg} {Q : Post} {wb : World} {e : Env} {ds : List Deferred} {L : Own} {x : Operand} {a b : Code} (h : CondX (ev e x) (tag (VT c (tag a) (tag Q) wb e ds L)) (tag (VT c (tag b) (tag Q) wb e ds L))) : VT c (tag (.cond x a b)) (tag Q) wb e ds L := h
def sgn (a b : Bool) : Int := if a = true then -1 else if b = true then 1 else 0
theorem sgn_Z (x y : Int) : sgn (decide (x < y)) (decide (y < x)) = cmpZ x y := by unfold sgn cmpZ; simp
theorem sgn_B : ∀ (a b : List UInt8), sgn (Op.bytesLess a b) (!(Op.bytesLess a b || a == b)) = Lib.compareBytes a b
  | [], [] => by simp [sgn, Op.bytesLess, Lib.compareBytes]
  | [], _ :: _ => by simp [sgn, Op.bytesLess, Lib.compareBytes]
  | _ :: _, [] => by simp [sgn, Op.bytesLess, Lib.compareBytes]
  | a :: l, b :: m => by
    have ih := sgn_B l m
    rw [Lib.compareBytes]
    rcases (show a < b ∨ a = b ∨ b < a by rw [UInt8.lt_iff_toNat_lt, UInt8.lt_iff_toNat_lt, ← UInt8.toNat_inj]; omega) with h | rfl | h
    · rw [if_pos h]
      have : Op.bytesLess (a :: l) (b :: m) = true := by simp [Op.bytesLess, h]
      rw [this]; rfl
    · have hi : ¬ a < a := by rw [UInt8.lt_iff_toNat_lt]; omega
      rw [if_neg hi, if_neg hi, ← ih]
      have h1 : Op.bytesLess (a :: l) (a :: m) = Op.bytesLess l m := by simp [Op.bytesLess, hi]
      have h2 : (a :: l == a :: m) = (l == m) := by simp
      rw [h1, h2]
    · have hi : ¬ a < b := by rw [UInt8.lt_iff_toNat_lt] at *; omega
      have hne : ¬ a = b := fun e => by subst e; exact hi h
      rw [if_neg hi, if_pos h]
      have h1 : Op.bytesLess (a :: l) (b :: m) = false := by simp [Op.bytesLess, hi, hne]
      have h2 : (a :: l == b :: m) = false := by simp [hne]
      rw [h1, h2]; rfl
theorem sign_walk (w : World) (a b : Bool) : Calls Tryd.prog 52 #[.bool a, .bool b] w (Rets w (Is (i64 (sgn a b)))) := by
  refine enterT (args := [.bool a, .bool b]) Tryd.func52 rfl Tryd.ntmps52 (congrArg Array.toList Tryd.results52) (by kernel_rfl) (by simp) (Sy.refl w) ?_
  simp (disch := omega) only [push_cast, Nat.reduceEqDiff]
  rw [V_cond]
  simp (disch := omega) only [push_cast, Nat.reduceEqDiff]
  refine condX_b (fun ha => ?_) (fun ha => ?_)
  · simp (disch := omega) only [push_cast, Nat.reduceEqDiff]
    exact finIs (by simp) (by rw [ha]; rfl)
  · simp (disch := omega) only [push_cast, Nat.reduceEqDiff]
    rw [V_cond]
    simp (disch := omega) only [push_cast, Nat.reduceEqDiff]
    refine condX_b (fun hb => ?_) (fun hb => ?_)
    · simp (disch := omega) only [push_cast, Nat.reduceEqDiff]
      exact finIs (by simp) (by rw [ha, hb]; rfl)
    · simp (disch := omega) only [push_cast, Nat.reduceEqDiff]
      exact finIs (by simp) (by rw [ha, hb]; rfl)
theorem place_walk (w : World) (n : Int) (h1 : -9223372036854775808 ≤ n) (h2 : n < 9223372036854775808) : Calls Tryd.prog 53 #[i64 n] w (Rets w (Is (u64 (totalP n)))) := by
  refine enterT (args := [i64 n]) Tryd.func53 rfl Tryd.ntmps53 (congrArg Array.toList Tryd.results53) (by kernel_rfl) (by simp) (Sy.refl w) ?_
  simp (disch := omega) only [push_cast, Nat.reduceEqDiff]
  rw [V_cond]
  simp (disch := omega) only [push_cast, Nat.reduceEqDiff]
  refine condX_d (fun h => ?_) (fun h => ?_)
  · simp (disch := omega) only [push_cast, Nat.reduceEqDiff]
    have hu : IntKind.u64.wrap n = ((n + 18446744073709551616).toNat : Int) := by rw [wrap_u64]; omega
    rw [hu]
    refine ⟨u64 (bits .xor .u64 18446744073709551615 ((n + 18446744073709551616).toNat : Int)), fun w => rfl, ?_⟩
    simp (disch := omega) only [push_cast, Nat.reduceEqDiff]
    refine finIs (by simp) (congrArg u64 ?_)
    rw [u64_xor _ _ (by omega) (by omega) (by omega) (by omega)]
    unfold totalP
    rw [if_pos h]
    have h3 := ones_xor (n + 18446744073709551616).toNat (by omega)
    simp only [Int.toNat_natCast, show (18446744073709551615 : Int).toNat = 18446744073709551615 from rfl]
    rw [h3]
    omega
  · simp (disch := omega) only [push_cast, Nat.reduceEqDiff]
    refine finIs (by simp) (congrArg u64 ?_)
    rw [wrap_u64, wrap_u64]
    unfold totalP
    rw [if_neg h]
    omega
def OrderROK (d : Nat) : Prop := ∀ (w : World) (lo : Nat) (f : Fld) (x y : Vl) (a xa ya : Option Addr) (c xc yc : Nat), lo ≤ w.heap.size → okD d f → fitD d f x = true → fitD d f y = true → FlAt w lo f a c → VAt w lo x xa xc → VAt w lo y ya yc →
  Calls Tryd.prog 27 #[.agg (f.cells a c).toArray, .agg (x.cells xa xc).toArray, .agg (y.cells ya yc).toArray] w (Rets w (Is (i64 (ordD d f x y))))
structure OsI (w0 : World) (b3 : Nat) (d : Nat) (f : Fld) (x y : Vl) (a xa ya : Option Addr) (c xc yc : Nat) (i : Nat) (wb : World) (e : Env) (ds : List Deferred) (L : Own) : Prop where
  hw : wb = w0
  hds : ds = []
  o : L = [(b3, Obj.cells #[i64 f.k, i64 f.wd, i64 f.id, i64 f.ix, .slice a f.sub.length c] 24 (0, 0))]
  hi : i ≤ min x.ls.length y.ls.length
  hr : ordLs (ordI d f) i (x.ls.drop i) (y.ls.drop i) = ordLs (ordI d f) 0 x.ls y.ls
  h1 : e 1 = .slice xa x.ls.length xc
  h2 : e 2 = .slice ya y.ls.length yc
  h3 : e 3 = .pointer (some ⟨b3, 0, none⟩)
  h7 : e 7 = i64 i
theorem orders_walk (d : Nat) (hO : OrderROK d) (w : World) (lo : Nat) (f : Fld) (x y : Vl) (a xa ya : Option Addr) (c xc yc : Nat) (hlo : lo ≤ w.heap.size) (hok : okD (d + 1) f) (hkC : f.k = 15 ∨ f.k = 16 ∨ f.k = 17) (hxn : x.nu = false) (hyn : y.nu = false) (hfx : fitD (d + 1) f x = true) (hfy : fitD (d + 1) f y = true) (hA : FlAt w lo f a c) (hX : VAt w lo x xa xc) (hY : VAt w lo y ya yc) :
    Calls Tryd.prog 54 #[.agg (f.tcells a c).toArray, .slice xa x.ls.length xc, .slice ya y.ls.length yc] w (Rets w (Is (i64 (ordLs (ordI d f) 0 x.ls y.ls)))) := by
  obtain ⟨hsh, hsub⟩ := (show shapedF f ∧ ∀ g ∈ f.sub, okD d g from hok)
  have hbnd : x.ls.length ≤ 9223372036854775807 := Nat.le_trans hX.hc hX.hc2
  have hbndy : y.ls.length ≤ 9223372036854775807 := Nat.le_trans hY.hc hY.hc2
  refine enterT (args := [.agg (f.tcells a c).toArray, .slice xa x.ls.length xc, .slice ya y.ls.length yc]) Tryd.func54 rfl Tryd.ntmps54 (congrArg Array.toList Tryd.results54) (by kernel_rfl) (by simp) (Sy.refl w) ?_
  simp (disch := omega) only [push_cast, Nat.reduceEqDiff, Fld.tcells]
  refine newI (fun b3 hb3 hn3 => ?_)
  simp (disch := omega) only [push_cast, Nat.reduceEqDiff]
  have hL : ∀ x : Obj, ∀ p ∈ [(b3, x)], w.heap.size ≤ p.1 := fun x p hp => by rw [List.mem_singleton.1 hp]; exact hb3
  rw [V_block]
  simp (disch := omega) only [push_cast, Nat.reduceEqDiff]
  refine loopW (G := Nat) (OsI w b3 d f x y a xa ya c xc yc) (fun i => min x.ls.length y.ls.length - i) 0 _ (fun w hw => hw) (by kernel_rfl) ⟨rfl, rfl, rfl, by omega, rfl, rfl, rfl, rfl, rfl⟩ ?_
  rintro i wb e ds L ⟨rfl, rfl, rfl, hi, hr, h1, h2, h3, h7⟩
  simp (disch := omega) only [push_cast, Nat.reduceEqDiff, h1, h2, h3, h7]
  have fin : i = min x.ls.length y.ls.length → sgn (decide ((x.ls.length : Int) < y.ls.length)) (decide ((y.ls.length : Int) < x.ls.length)) = ordLs (ordI d f) 0 x.ls y.ls := fun hi => by
    rw [sgn_Z, ← hr, ordLs_end hi]
  refine guardX_t rfl (fun hlx => ?_) (fun hlx => ?_)
  rotate_left
  · simp (disch := omega) only [push_cast, Nat.reduceEqDiff, h1, h2, h3, h7]
    rw [V_cond]
    simp (disch := omega) only [push_cast, Nat.reduceEqDiff, h1, h2, h3, h7]
    refine callV en_52 (callX_is (fun w' hw' => sign_walk w' _ _) ?_)
    simp (disch := omega) only [push_cast, Nat.reduceEqDiff, h1, h2, h3, h7]
    exact finIs (hL _) (congrArg i64 (fin (by omega)))
  simp (disch := omega) only [push_cast, Nat.reduceEqDiff, h1, h2, h3, h7]
  rw [V_cond]
  simp (disch := omega) only [push_cast, Nat.reduceEqDiff, h1, h2, h3, h7]
  refine condX_d (fun hly => ?_) (fun hly => ?_)
  rotate_left
  · simp (disch := omega) only [push_cast, Nat.reduceEqDiff, h1, h2, h3, h7]
    refine callV en_52 (callX_is (fun w' hw' => sign_walk w' _ _) ?_)
    simp (disch := omega) only [push_cast, Nat.reduceEqDiff, h1, h2, h3, h7]
    exact finIs (hL _) (congrArg i64 (fin (by omega)))
  clear fin
  obtain ⟨p, hp⟩ : ∃ p, x.ls[i]? = some p := ⟨_, List.getElem?_eq_getElem (by omega)⟩
  obtain ⟨q, hq⟩ : ∃ q, y.ls[i]? = some q := ⟨_, List.getElem?_eq_getElem (by omega)⟩
  obtain ⟨g, hg, hgp⟩ := (fit_list hxn hkC hfx).2.2.2.2 i p hp
  obtain ⟨g', hg', hgq⟩ := (fit_list hyn hkC hfy).2.2.2.2 i q hq
  obtain rfl : g = g' := by rw [hg] at hg'; exact Option.some.inj hg'
  have hpos : childN f i < f.sub.length := (List.getElem?_eq_some_iff.1 hg).1
  have hoi : ordI d f i p q = ordD d g p q := by unfold ordI; rw [hg]
  have hgm := List.mem_of_getElem? hg
  obtain ⟨gb, goff, ga, gc, rfl, g1, g2, g3⟩ := hA.get hg
  obtain ⟨pb, poff, pa, pc, rfl, p1, p2, p3⟩ := hX.get hp
  obtain ⟨qb, qoff, qa, qc, rfl, r1, r2, r3⟩ := hY.get hq
  simp (disch := omega) only [push_cast, Nat.reduceEqDiff, h1, h2, h3, h7]
  rw [V_block]
  simp (disch := omega) only [push_cast, Nat.reduceEqDiff, h1, h2, h3, h7]
  refine ldOne Shp.eq mem0 rfl ?_
  simp (disch := omega) only [push_cast, Nat.reduceEqDiff, h1, h2, h3, h7]
  rw [V_cond]
  simp (disch := omega) only [push_cast, Nat.reduceEqDiff, h1, h2, h3, h7]
  refine condX_d (fun h17 => ?_) (fun h17 => ?_)
  focus
    have hch : childN f i = i := if_pos (by omega)
    rw [hch] at g2 hpos
  rotate_left
  focus
    have hch : childN f i = 0 := if_neg (by omega)
    rw [hch] at g2 hpos
    rw [Nat.zero_mul, Nat.add_zero] at g2
  all_goals
    simp (disch := omega) only [push_cast, Nat.reduceEqDiff, h1, h2, h3, h7]
    refine drawQT (by kernel_rfl) (by kernel_rfl) mixed (by kernel_rfl) ?_
    simp (disch := omega) only [push_cast, Nat.reduceEqDiff, h1, h2, h3, h7]
    refine ldOne Shp.eq mem0 rfl ?_
    simp (disch := omega) only [push_cast, Nat.reduceEqDiff, h1, h2, h3, h7]
    refine ldAggF Shp.eq g2 rfl (out_of (fun p hp => Nat.lt_of_lt_of_le (Nat.lt_of_lt_of_le g1 hlo) (hL _ p hp))) ?_
    simp (disch := omega) only [push_cast, Nat.reduceEqDiff, h1, h2, h3, h7, Fld.cells]
    refine ldAggF Shp.eq p2 rfl (out_of (fun p hp => Nat.lt_of_lt_of_le (Nat.lt_of_lt_of_le p1 hlo) (hL _ p hp))) ?_
    simp (disch := omega) only [push_cast, Nat.reduceEqDiff, h1, h2, h3, h7, Vl.cells]
    refine ldAggF Shp.eq r2 rfl (out_of (fun p hp => Nat.lt_of_lt_of_le (Nat.lt_of_lt_of_le r1 hlo) (hL _ p hp))) ?_
    simp (disch := omega) only [push_cast, Nat.reduceEqDiff, h1, h2, h3, h7, Vl.cells]
    refine qcallV en_27 (qcallX_is (i64 (ordD d g p q)) (fun w' hw' => hO w' lo g p q ga pa qa gc pc qc (Nat.le_trans hlo hw'.size) (hsub g hgm) hgp hgq (g3.sy hlo hw' (hL _)) (p3.sy hlo hw' (hL _)) (r3.sy hlo hw' (hL _))) ?_)
    simp (disch := omega) only [push_cast, Nat.reduceEqDiff, h1, h2, h3, h7]
    rw [V_cond]
    simp (disch := omega) only [push_cast, Nat.reduceEqDiff, h1, h2, h3, h7]
    refine condX_d (fun hne => ?_) (fun hne => ?_)
    · simp (disch := omega) only [push_cast, Nat.reduceEqDiff, h1, h2, h3, h7]
      exact finIs (hL _) (congrArg i64 (by rw [← hr, ordLs_step hp hq, hoi, if_pos hne]))
    · simp (disch := omega) only [push_cast, Nat.reduceEqDiff, h1, h2, h3, h7]
      refine ⟨i + 1, _, fun w hw => hw, ⟨rfl, rfl, rfl, by omega, by rw [← hr, ordLs_step hp hq, hoi, if_neg hne], h1, h2, h3, by simp only [upd]; rfl⟩, by omega⟩
theorem orderR_step (d : Nat) (hO : OrderROK d) : OrderROK (d + 1) := by
  intro w lo f x y a xa ya c xc yc hlo hok hfx hfy hA hX hY
  have hokd := hok
  obtain ⟨hsh, hsub⟩ := (show shapedF f ∧ ∀ g ∈ f.sub, okD d g from hok)
  have hbnd : x.ls.length ≤ 9223372036854775807 := Nat.le_trans hX.hc hX.hc2
  have hbndy : y.ls.length ≤ 9223372036854775807 := Nat.le_trans hY.hc hY.hc2
  refine enterT (args := [.agg (f.cells a c).toArray, .agg (x.cells xa xc).toArray, .agg (y.cells ya yc).toArray]) Tryd.func27 rfl Tryd.ntmps27 (congrArg Array.toList Tryd.results27) (by kernel_rfl) (by simp) (Sy.refl w) ?_
  simp (disch := omega) only [push_cast, Nat.reduceEqDiff, Fld.cells, Vl.cells]
  refine newI (fun b3 hb3 hn3 => ?_)
  simp (disch := omega) only [push_cast, Nat.reduceEqDiff, Fld.cells, Vl.cells]
  refine newI (fun b4 hb4 hn4 => ?_)
  simp (disch := omega) only [push_cast, Nat.reduceEqDiff, Fld.cells, Vl.cells]
  refine newI (fun b5 hb5 hn5 => ?_)
  simp (disch := omega) only [push_cast, Nat.reduceEqDiff, Fld.cells, Vl.cells]
  refine loadX_agg Shp.eq mem2 rfl rfl ?_
  simp (disch := omega) only [push_cast, Nat.reduceEqDiff]
  refine newI (fun b7 hb7 hn7 => ?_)
  simp (disch := omega) only [push_cast, Nat.reduceEqDiff]
  refine storeX 0 rfl Siz.eq rfl rfl (by simp [Value.oneCell']) (by simp) ?_
  simp (disch := omega) only [push_cast, Nat.reduceEqDiff]
  have hL4 : ∀ x y z u : Obj, ∀ p ∈ [(b7, x), (b5, y), (b4, z), (b3, u)], w.heap.size ≤ p.1 := fun x y z u p hp => by
    simp only [List.mem_cons, List.mem_nil_iff, or_false] at hp
    rcases hp with rfl | rfl | rfl | rfl
    · exact hb7
    · exact hb5
    · exact hb4
    · exact hb3
  refine ldOne Shp.eq mem2 rfl ?_
  simp (disch := omega) only [push_cast, Nat.reduceEqDiff]
  refine forgetG (fun e => e 4 = .pointer (some ⟨b4, 0, none⟩) ∧ e 5 = .pointer (some ⟨b5, 0, none⟩) ∧ e 7 = .pointer (some ⟨b7, 0, none⟩) ∧ e 12 = .bool x.nu) ⟨rfl, rfl, rfl, rfl⟩ ?_
  rintro e ⟨h4, h5, h7, h12⟩
  refine guardX_bf h12 (fun hxn => ?_) (fun hxn => ?_)
  rotate_left
  · simp (disch := omega) only [push_cast, Nat.reduceEqDiff, h4, h5, h7]
    rw [V_cond]
    simp (disch := omega) only [push_cast, Nat.reduceEqDiff, h4, h5, h7]
    refine ldOne Shp.eq mem2 rfl ?_
    simp (disch := omega) only [push_cast, Nat.reduceEqDiff, h4, h5, h7]
    refine guardX_bt rfl (fun _ => ?_) (fun h => absurd (hxn.symm.trans h) (by decide))
    simp (disch := omega) only [push_cast, Nat.reduceEqDiff, h4, h5, h7]
    refine ldOne Shp.eq mem1 rfl ?_
    simp (disch := omega) only [push_cast, Nat.reduceEqDiff, h4, h5, h7]
    refine ldOne Shp.eq mem1 rfl ?_
    simp (disch := omega) only [push_cast, Nat.reduceEqDiff, h4, h5, h7]
    refine guardX_bt rfl (fun hyn => ?_) (fun hyn => ?_)
    · simp (disch := omega) only [push_cast, Nat.reduceEqDiff, h4, h5, h7]
      refine ldOne Shp.eq mem2 rfl ?_
      simp (disch := omega) only [push_cast, Nat.reduceEqDiff, h4, h5, h7]
      refine callV en_52 (callX_is (fun w' hw' => sign_walk w' _ _) ?_)
      simp (disch := omega) only [push_cast, Nat.reduceEqDiff, h4, h5, h7]
      exact finIs (hL4 _ _ _ _) (congrArg i64 (by rw [ordD, hxn, hyn]; rfl))
    · simp (disch := omega) only [push_cast, Nat.reduceEqDiff, h4, h5, h7]
      refine callV en_52 (callX_is (fun w' hw' => sign_walk w' _ _) ?_)
      simp (disch := omega) only [push_cast, Nat.reduceEqDiff, h4, h5, h7]
      exact finIs (hL4 _ _ _ _) (congrArg i64 (by rw [ordD, hxn, hyn]; rfl))
  simp (disch := omega) only [push_cast, Nat.reduceEqDiff, h4, h5, h7]
  refine ldOne Shp.eq mem1 rfl ?_
  simp (disch := omega) only [push_cast, Nat.reduceEqDiff, h4, h5, h7]
  rw [V_cond]
  simp (disch := omega) only [push_cast, Nat.reduceEqDiff, h4, h5, h7]
  refine condX_b (fun hyn => ?_) (fun hyn => ?_)
  · simp (disch := omega) only [push_cast, Nat.reduceEqDiff, h4, h5, h7]
    refine ldOne Shp.eq mem2 rfl ?_
    simp (disch := omega) only [push_cast, Nat.reduceEqDiff, h4, h5, h7]
    refine guardX_bt rfl (fun h => absurd (h.symm.trans hxn) (by decide)) (fun _ => ?_)
    simp (disch := omega) only [push_cast, Nat.reduceEqDiff, h4, h5, h7]
    refine ldOne Shp.eq mem1 rfl ?_
    simp (disch := omega) only [push_cast, Nat.reduceEqDiff, h4, h5, h7]
    refine guardX_bt rfl (fun _ => ?_) (fun h => absurd (hyn.symm.trans h) (by decide))
    simp (disch := omega) only [push_cast, Nat.reduceEqDiff, h4, h5, h7]
    refine ldOne Shp.eq mem2 rfl ?_
    simp (disch := omega) only [push_cast, Nat.reduceEqDiff, h4, h5, h7]
    refine callV en_52 (callX_is (fun w' hw' => sign_walk w' _ _) ?_)
    simp (disch := omega) only [push_cast, Nat.reduceEqDiff, h4, h5, h7]
    exact finIs (hL4 _ _ _ _) (congrArg i64 (by rw [ordD, hxn, hyn]; rfl))
  have hnn : ¬ (x.nu || y.nu) = true := by rw [hxn, hyn]; decide
  simp (disch := omega) only [push_cast, Nat.reduceEqDiff, h4, h5, h7]
  refine ldOne Shp.eq mem0 rfl ?_
  simp (disch := omega) only [push_cast, Nat.reduceEqDiff, h4, h5, h7]
  rw [V_block]
  refine forget (fun e => e 4 = .pointer (some ⟨b4, 0, none⟩) ∧ e 5 = .pointer (some ⟨b5, 0, none⟩) ∧ e 7 = .pointer (some ⟨b7, 0, none⟩) ∧ e 32 = i64 f.k) ⟨h4, h5, h7, rfl⟩ ?_
  clear h4 h5 h7 h12 e
  rintro e ⟨h4, h5, h7, h32⟩
  by_cases hkA : f.k = 19 ∨ f.k = 20
  · have hlen : f.sub.length = 1 := by
      have h1 := hsh.2.2.2
      rcases hkA with hk | hk <;> rw [hk] at h1 <;> simp [leastK, mostK] at h1 <;> omega
    obtain ⟨g, hg⟩ : ∃ g, f.sub[0]? = some g := ⟨_, List.getElem?_eq_getElem (by omega)⟩
    obtain ⟨gb, goff, ga, gc, rfl, g1, g2, g3⟩ := hA.get hg
    rw [Nat.zero_mul, Nat.add_zero] at g2
    have hor : ordD (d + 1) f x y = ordD d g x y := by rw [ordD, if_neg hnn, if_pos hkA, hg]
    have hgx := fit_wrap hxn hkA hg hfx
    have hgy := fit_wrap hyn hkA hg hfy
    rcases hkA with hk | hk <;> rw [hk] at h32 <;> simp (disch := omega) only [push_cast, Nat.reduceEqDiff, h4, h5, h7, h32]
    all_goals repeat ((try refine condI ?_); (try simp (disch := omega) only [push_cast, Nat.reduceEqDiff, h4, h5, h7, h32]); (refine condX_d (fun h9 => ?_) (fun h9 => ?_) <;> first | (exfalso; first | omega | exact h9 trivial) | ((try clear h9); try simp (disch := omega) only [push_cast, Nat.reduceEqDiff, h4, h5, h7, h32])))
    all_goals
      refine drawQT (by kernel_rfl) (by kernel_rfl) mixed (by kernel_rfl) ?_
      simp (disch := omega) only [push_cast, Nat.reduceEqDiff, h4, h5, h7, h32]
      refine ldOne Shp.eq mem0 rfl ?_
      simp (disch := omega) only [push_cast, Nat.reduceEqDiff, h4, h5, h7, h32]
      refine ldAggF Shp.eq g2 rfl (out_of (fun p hp => Nat.lt_of_lt_of_le (Nat.lt_of_lt_of_le g1 hlo) (hL4 _ _ _ _ p hp))) ?_
      simp (disch := omega) only [push_cast, Nat.reduceEqDiff, h4, h5, h7, h32, Fld.cells]
      refine loadX_agg Shp.eq mem2 rfl rfl ?_
      simp (disch := omega) only [push_cast, Nat.reduceEqDiff, h4, h5, h7, h32]
      refine loadX_agg Shp.eq mem1 rfl rfl ?_
      simp (disch := omega) only [push_cast, Nat.reduceEqDiff, h4, h5, h7, h32]
      refine qcallV en_27 (qcallX_is (i64 (ordD d g x y)) (fun w' hw' => hO w' lo g x y ga xa ya gc xc yc (Nat.le_trans hlo hw'.size) (hsub g (List.mem_of_getElem? hg)) hgx hgy (g3.sy hlo hw' (hL4 _ _ _ _)) (hX.sy hlo hw' (hL4 _ _ _ _)) (hY.sy hlo hw' (hL4 _ _ _ _))) ?_)
      simp (disch := omega) only [push_cast, Nat.reduceEqDiff, h4, h5, h7, h32]
      exact finIs (hL4 _ _ _ _) (congrArg i64 hor.symm)
  by_cases hkU : f.k = 10
  · have hor : ordD (d + 1) f x y = cmpZ (u64P x.num) (u64P y.num) := by rw [ordD, if_neg hnn, if_neg hkA, if_pos hkU]
    rw [hkU] at h32
    simp (disch := omega) only [push_cast, Nat.reduceEqDiff, h4, h5, h7, h32]
    repeat ((try refine condI ?_); (try simp (disch := omega) only [push_cast, Nat.reduceEqDiff, h4, h5, h7, h32]); (refine condX_d (fun h9 => ?_) (fun h9 => ?_) <;> first | (exfalso; first | omega | exact h9 trivial) | ((try clear h9); try simp (disch := omega) only [push_cast, Nat.reduceEqDiff, h4, h5, h7, h32])))
    refine ldOne Shp.eq mem2 rfl ?_
    simp (disch := omega) only [push_cast, Nat.reduceEqDiff, h4, h5, h7, h32]
    refine ldOne Shp.eq mem1 rfl ?_
    simp (disch := omega) only [push_cast, Nat.reduceEqDiff, h4, h5, h7, h32]
    refine ldOne Shp.eq mem2 rfl ?_
    simp (disch := omega) only [push_cast, Nat.reduceEqDiff, h4, h5, h7, h32]
    refine ldOne Shp.eq mem1 rfl ?_
    simp (disch := omega) only [push_cast, Nat.reduceEqDiff, h4, h5, h7, h32]
    refine callV en_52 (callX_is (fun w' hw' => sign_walk w' _ _) ?_)
    simp (disch := omega) only [push_cast, Nat.reduceEqDiff, h4, h5, h7, h32]
    exact finIs (hL4 _ _ _ _) (congrArg i64 (by unfold u64P at hor; rw [hor, sgn_Z]))
  by_cases hkT : f.k = 11
  · have hor : ordD (d + 1) f x y = cmpZ (totalP x.num) (totalP y.num) := by rw [ordD, if_neg hnn, if_neg hkA, if_neg hkU, if_pos hkT]
    rw [hkT] at h32
    simp (disch := omega) only [push_cast, Nat.reduceEqDiff, h4, h5, h7, h32]
    repeat ((try refine condI ?_); (try simp (disch := omega) only [push_cast, Nat.reduceEqDiff, h4, h5, h7, h32]); (refine condX_d (fun h9 => ?_) (fun h9 => ?_) <;> first | (exfalso; first | omega | exact h9 trivial) | ((try clear h9); try simp (disch := omega) only [push_cast, Nat.reduceEqDiff, h4, h5, h7, h32])))
    refine drawQT (by kernel_rfl) (by kernel_rfl) mixed (by kernel_rfl) ?_
    simp (disch := omega) only [push_cast, Nat.reduceEqDiff, h4, h5, h7, h32]
    refine ldOne Shp.eq mem2 rfl ?_
    simp (disch := omega) only [push_cast, Nat.reduceEqDiff, h4, h5, h7, h32]
    refine qcallV en_53 (qcallX_is (u64 (totalP x.num)) (fun w' hw' => place_walk w' _ hX.hn.1 hX.hn.2) ?_)
    simp (disch := omega) only [push_cast, Nat.reduceEqDiff, h4, h5, h7, h32]
    refine ldOne Shp.eq mem1 rfl ?_
    simp (disch := omega) only [push_cast, Nat.reduceEqDiff, h4, h5, h7, h32]
    refine qcallV en_53 (qcallX_is (u64 (totalP y.num)) (fun w' hw' => place_walk w' _ hY.hn.1 hY.hn.2) ?_)
    simp (disch := omega) only [push_cast, Nat.reduceEqDiff, h4, h5, h7, h32]
    refine ldOne Shp.eq mem2 rfl ?_
    simp (disch := omega) only [push_cast, Nat.reduceEqDiff, h4, h5, h7, h32]
    refine qcallV en_53 (qcallX_is (u64 (totalP x.num)) (fun w' hw' => place_walk w' _ hX.hn.1 hX.hn.2) ?_)
    simp (disch := omega) only [push_cast, Nat.reduceEqDiff, h4, h5, h7, h32]
    refine ldOne Shp.eq mem1 rfl ?_
    simp (disch := omega) only [push_cast, Nat.reduceEqDiff, h4, h5, h7, h32]
    refine qcallV en_53 (qcallX_is (u64 (totalP y.num)) (fun w' hw' => place_walk w' _ hY.hn.1 hY.hn.2) ?_)
    simp (disch := omega) only [push_cast, Nat.reduceEqDiff, h4, h5, h7, h32]
    refine qcallV en_52 (qcallX_is _ (fun w' hw' => sign_walk w' _ _) ?_)
    simp (disch := omega) only [push_cast, Nat.reduceEqDiff, h4, h5, h7, h32]
    exact finIs (hL4 _ _ _ _) (congrArg i64 (by rw [hor, ← sgn_Z]))
  by_cases hkD : f.k = 12 ∨ f.k = 13 ∨ f.k = 14
  · have hor : ordD (d + 1) f x y = Lib.compareBytes x.tx y.tx := by rw [ordD, if_neg hnn, if_neg hkA, if_neg hkU, if_neg hkT, if_pos hkD]
    rcases hkD with hk | hk | hk <;> rw [hk] at h32 <;> simp (disch := omega) only [push_cast, Nat.reduceEqDiff, h4, h5, h7, h32]
    all_goals repeat ((try refine condI ?_); (try simp (disch := omega) only [push_cast, Nat.reduceEqDiff, h4, h5, h7, h32]); (refine condX_d (fun h9 => ?_) (fun h9 => ?_) <;> first | (exfalso; first | omega | exact h9 trivial) | ((try clear h9); try simp (disch := omega) only [push_cast, Nat.reduceEqDiff, h4, h5, h7, h32])))
    all_goals
      refine ldOne Shp.eq mem2 rfl ?_
      simp (disch := omega) only [push_cast, Nat.reduceEqDiff, h4, h5, h7, h32]
      refine ldOne Shp.eq mem1 rfl ?_
      simp (disch := omega) only [push_cast, Nat.reduceEqDiff, h4, h5, h7, h32]
    all_goals
      refine ldOne Shp.eq mem2 rfl ?_
      simp (disch := omega) only [push_cast, Nat.reduceEqDiff, h4, h5, h7, h32]
      refine ldOne Shp.eq mem1 rfl ?_
      simp (disch := omega) only [push_cast, Nat.reduceEqDiff, h4, h5, h7, h32]
      refine callV en_52 (callX_is (fun w' hw' => sign_walk w' _ _) ?_)
      simp (disch := omega) only [push_cast, Nat.reduceEqDiff, h4, h5, h7, h32]
      exact finIs (hL4 _ _ _ _) (congrArg i64 (by rw [hor]; exact sgn_B _ _))
  by_cases hkB : f.k = 18
  · rw [hkB] at h32
    simp (disch := omega) only [push_cast, Nat.reduceEqDiff, h4, h5, h7, h32]
    repeat ((try refine condI ?_); (try simp (disch := omega) only [push_cast, Nat.reduceEqDiff, h4, h5, h7, h32]); (refine condX_d (fun h9 => ?_) (fun h9 => ?_) <;> first | (exfalso; first | omega | exact h9 trivial) | ((try clear h9); try simp (disch := omega) only [push_cast, Nat.reduceEqDiff, h4, h5, h7, h32])))
    refine ldOne Shp.eq mem2 rfl ?_
    simp (disch := omega) only [push_cast, Nat.reduceEqDiff, h4, h5, h7, h32]
    refine ldOne Shp.eq mem1 rfl ?_
    simp (disch := omega) only [push_cast, Nat.reduceEqDiff, h4, h5, h7, h32]
    rw [V_cond]
    simp (disch := omega) only [push_cast, Nat.reduceEqDiff, h4, h5, h7, h32]
    refine condX_d (fun hne => ?_) (fun hne => ?_)
    · simp (disch := omega) only [push_cast, Nat.reduceEqDiff, h4, h5, h7, h32]
      refine ldOne Shp.eq mem2 rfl ?_
      simp (disch := omega) only [push_cast, Nat.reduceEqDiff, h4, h5, h7, h32]
      refine ldOne Shp.eq mem1 rfl ?_
      simp (disch := omega) only [push_cast, Nat.reduceEqDiff, h4, h5, h7, h32]
      refine ldOne Shp.eq mem2 rfl ?_
      simp (disch := omega) only [push_cast, Nat.reduceEqDiff, h4, h5, h7, h32]
      refine ldOne Shp.eq mem1 rfl ?_
      simp (disch := omega) only [push_cast, Nat.reduceEqDiff, h4, h5, h7, h32]
      refine callV en_52 (callX_is (fun w' hw' => sign_walk w' _ _) ?_)
      simp (disch := omega) only [push_cast, Nat.reduceEqDiff, h4, h5, h7, h32]
      have hor : ordD (d + 1) f x y = cmpZ x.num y.num := by rw [ordD, if_neg hnn, if_neg hkA, if_neg hkU, if_neg hkT, if_neg hkD, if_pos hkB, if_pos hne]
      exact finIs (hL4 _ _ _ _) (congrArg i64 (by rw [hor]; exact sgn_Z _ _))
    · have hne' : x.num = y.num := Decidable.not_not.1 hne
      obtain ⟨g, p, hg, hp, hl1, q1, q2, hgp⟩ := fit_union hxn hkB hfx
      obtain ⟨g', q, hg', hq, hl2, q3, q4, hgq⟩ := fit_union hyn hkB hfy
      obtain rfl : g = g' := by rw [← hne', hg] at hg'; exact Option.some.inj hg'
      obtain ⟨gb, goff, ga, gc, rfl, g1, g2, g3⟩ := hA.get hg
      obtain ⟨pb, poff, pa, pc, rfl, p1, p2, p3⟩ := hX.get hp
      obtain ⟨qb, qoff, qa, qc, rfl, r1, r2, r3⟩ := hY.get hq
      rw [Nat.zero_mul, Nat.add_zero] at p2 r2
      simp (disch := omega) only [push_cast, Nat.reduceEqDiff, h4, h5, h7, h32]
      refine drawQT (by kernel_rfl) (by kernel_rfl) mixed (by kernel_rfl) ?_
      simp (disch := omega) only [push_cast, Nat.reduceEqDiff, h4, h5, h7, h32]
      refine ldOne Shp.eq mem0 rfl ?_
      simp (disch := omega) only [push_cast, Nat.reduceEqDiff, h4, h5, h7, h32]
      refine ldOne Shp.eq mem2 rfl ?_
      simp (disch := omega) only [push_cast, Nat.reduceEqDiff, h4, h5, h7, h32]
      refine ldAggF Shp.eq g2 rfl (out_of (fun p hp => Nat.lt_of_lt_of_le (Nat.lt_of_lt_of_le g1 hlo) (hL4 _ _ _ _ p hp))) ?_
      simp (disch := omega) only [push_cast, Nat.reduceEqDiff, h4, h5, h7, h32, Fld.cells]
      refine ldOne Shp.eq mem2 rfl ?_
      simp (disch := omega) only [push_cast, Nat.reduceEqDiff, h4, h5, h7, h32]
      refine ldAggF Shp.eq p2 rfl (out_of (fun p hp => Nat.lt_of_lt_of_le (Nat.lt_of_lt_of_le p1 hlo) (hL4 _ _ _ _ p hp))) ?_
      simp (disch := omega) only [push_cast, Nat.reduceEqDiff, h4, h5, h7, h32, Vl.cells]
      refine ldOne Shp.eq mem1 rfl ?_
      simp (disch := omega) only [push_cast, Nat.reduceEqDiff, h4, h5, h7, h32]
      refine ldAggF Shp.eq r2 rfl (out_of (fun p hp => Nat.lt_of_lt_of_le (Nat.lt_of_lt_of_le r1 hlo) (hL4 _ _ _ _ p hp))) ?_
      simp (disch := omega) only [push_cast, Nat.reduceEqDiff, h4, h5, h7, h32, Vl.cells]
      refine qcallV en_27 (qcallX_is (i64 (ordD d g p q)) (fun w' hw' => hO w' lo g p q ga pa qa gc pc qc (Nat.le_trans hlo hw'.size) (hsub g (List.mem_of_getElem? hg)) hgp hgq (g3.sy hlo hw' (hL4 _ _ _ _)) (p3.sy hlo hw' (hL4 _ _ _ _)) (r3.sy hlo hw' (hL4 _ _ _ _))) ?_)
      simp (disch := omega) only [push_cast, Nat.reduceEqDiff, h4, h5, h7, h32]
      exact finIs (hL4 _ _ _ _) (congrArg i64 (by rw [ordD, if_neg hnn, if_neg hkA, if_neg hkU, if_neg hkT, if_neg hkD, if_pos hkB, if_neg hne, hg, hp, hq]))
  by_cases hkC : f.k = 15 ∨ f.k = 16 ∨ f.k = 17
  · have hor : ordD (d + 1) f x y = ordLs (ordI d f) 0 x.ls y.ls := by rw [ordD, if_neg hnn, if_neg hkA, if_neg hkU, if_neg hkT, if_neg hkD, if_neg hkB, if_pos hkC]; rfl
    have hkC' := hkC
    rcases hkC with hk | hk | hk <;> rw [hk] at h32 <;> simp (disch := omega) only [push_cast, Nat.reduceEqDiff, h4, h5, h7, h32]
    all_goals repeat ((try refine condI ?_); (try simp (disch := omega) only [push_cast, Nat.reduceEqDiff, h4, h5, h7, h32]); (refine condX_d (fun h9 => ?_) (fun h9 => ?_) <;> first | (exfalso; first | omega | exact h9 trivial) | ((try clear h9); try simp (disch := omega) only [push_cast, Nat.reduceEqDiff, h4, h5, h7, h32])))
    all_goals
      refine loadX_agg Shp.eq mem0 rfl rfl ?_
      simp (disch := omega) only [push_cast, Nat.reduceEqDiff, h4, h5, h7, h32]
      refine ldOne Shp.eq mem2 rfl ?_
      simp (disch := omega) only [push_cast, Nat.reduceEqDiff, h4, h5, h7, h32]
      refine ldOne Shp.eq mem1 rfl ?_
      simp (disch := omega) only [push_cast, Nat.reduceEqDiff, h4, h5, h7, h32]
      refine callV en_54 (callX_is (fun w' hw' => orders_walk d hO w' lo f x y a xa ya c xc yc (Nat.le_trans hlo hw'.size) hokd hkC' hxn hyn hfx hfy (hA.sy hlo hw' (hL4 _ _ _ _)) (hX.sy hlo hw' (hL4 _ _ _ _)) (hY.sy hlo hw' (hL4 _ _ _ _))) ?_)
      simp (disch := omega) only [push_cast, Nat.reduceEqDiff, h4, h5, h7, h32]
      exact finIs (hL4 _ _ _ _) (congrArg i64 hor.symm)
  have hor : ordD (d + 1) f x y = cmpZ x.num y.num := by rw [ordD, if_neg hnn, if_neg hkA, if_neg hkU, if_neg hkT, if_neg hkD, if_neg hkB, if_neg hkC]
  simp (disch := omega) only [push_cast, Nat.reduceEqDiff, h4, h5, h7, h32]
  repeat ((try refine condI ?_); (try simp (disch := omega) only [push_cast, Nat.reduceEqDiff, h4, h5, h7, h32]); (refine condX_d (fun h9 => ?_) (fun h9 => ?_) <;> first | (exfalso; first | omega | exact h9 trivial) | ((try clear h9); try simp (disch := omega) only [push_cast, Nat.reduceEqDiff, h4, h5, h7, h32])))
  refine ldOne Shp.eq mem2 rfl ?_
  simp (disch := omega) only [push_cast, Nat.reduceEqDiff, h4, h5, h7, h32]
  refine ldOne Shp.eq mem1 rfl ?_
  simp (disch := omega) only [push_cast, Nat.reduceEqDiff, h4, h5, h7, h32]
  refine ldOne Shp.eq mem2 rfl ?_
  simp (disch := omega) only [push_cast, Nat.reduceEqDiff, h4, h5, h7, h32]
  refine ldOne Shp.eq mem1 rfl ?_
  simp (disch := omega) only [push_cast, Nat.reduceEqDiff, h4, h5, h7, h32]
  refine callV en_52 (callX_is (fun w' hw' => sign_walk w' _ _) ?_)
  simp (disch := omega) only [push_cast, Nat.reduceEqDiff, h4, h5, h7, h32]
  exact finIs (hL4 _ _ _ _) (congrArg i64 (by rw [hor]; exact sgn_Z _ _))
theorem orderR_all : ∀ d, OrderROK d
  | 0 => fun w lo f x y a xa ya c xc yc hlo hok => absurd hok (by simp [okD])
  | d + 1 => orderR_step d (orderR_all d)
theorem cmpC_l {f : Fld} {x y : Vl} (h : ¬ fitsP f x = 0) : cmpC f x y = fitsP f x := by
  unfold cmpC fitsP at *
  cases hm : mayD f <;> cases hx : goodD f x <;> cases hy : goodD f y <;> simp_all
theorem cmpC_r {f : Fld} {x y : Vl} (h : ¬ ¬ fitsP f x = 0) (h2 : ¬ fitsP f y = 0) : cmpC f x y = fitsP f y := by
  unfold cmpC fitsP at *
  cases hm : mayD f <;> cases hx : goodD f x <;> cases hy : goodD f y <;> simp_all
theorem fits_both {f : Fld} {x y : Vl} (h : ¬ ¬ fitsP f x = 0) (h2 : ¬ ¬ fitsP f y = 0) : mayD f = true ∧ goodD f x = true ∧ goodD f y = true := by
  unfold fitsP at *
  cases hm : mayD f <;> cases hx : goodD f x <;> cases hy : goodD f y <;> simp_all
theorem compareR_walk (w : World) (lo : Nat) (hlo : lo ≤ w.heap.size) (f : Fld) (x y : Vl) (a xa ya : Option Addr) (c xc yc : Nat) (hA : FlAt w lo f a c) (hfn : f.nm.length ≤ 9223372036854775807) (hX : VAt w lo x xa xc) (hY : VAt w lo y ya yc) :
    Calls Tryd.prog 7 #[.agg (f.cells a c).toArray, .agg (x.cells xa xc).toArray, .agg (y.cells ya yc).toArray] w (Rets w (Is (.tuple #[i64 (cmpO f x y), i64 (cmpC f x y)]))) := by
  refine enterT (args := [.agg (f.cells a c).toArray, .agg (x.cells xa xc).toArray, .agg (y.cells ya yc).toArray]) Tryd.func7 rfl Tryd.ntmps7 (congrArg Array.toList Tryd.results7) (by kernel_rfl) (by simp) (Sy.refl w) ?_
  simp (disch := omega) only [push_cast, Nat.reduceEqDiff, Fld.cells, Vl.cells]
  refine newI (fun b3 hb3 hn3 => ?_)
  simp (disch := omega) only [push_cast, Nat.reduceEqDiff, Fld.cells, Vl.cells]
  refine newI (fun b4 hb4 hn4 => ?_)
  simp (disch := omega) only [push_cast, Nat.reduceEqDiff, Fld.cells, Vl.cells]
  refine newI (fun b5 hb5 hn5 => ?_)
  simp (disch := omega) only [push_cast, Nat.reduceEqDiff, Fld.cells, Vl.cells]
  have hL : ∀ x y z : Obj, ∀ p ∈ [(b5, x), (b4, y), (b3, z)], w.heap.size ≤ p.1 := fun x y z p hp => by
    simp only [List.mem_cons, List.mem_nil_iff, or_false] at hp
    rcases hp with rfl | rfl | rfl
    · exact hb5
    · exact hb4
    · exact hb3
  refine loadX_agg Shp.eq mem2 rfl rfl ?_
  simp (disch := omega) only [push_cast, Nat.reduceEqDiff]
  refine loadX_agg Shp.eq mem1 rfl rfl ?_
  simp (disch := omega) only [push_cast, Nat.reduceEqDiff]
  refine callV en_17 (callX_is (fun w' hw' => fitsRef_walk w' lo (Nat.le_trans hlo hw'.size) f x a xa c xc (hA.sy hlo hw' (hL _ _ _)) hfn (hX.sy hlo hw' (hL _ _ _))) ?_)
  simp (disch := omega) only [push_cast, Nat.reduceEqDiff]
  rw [V_cond]
  simp (disch := omega) only [push_cast, Nat.reduceEqDiff]
  refine condX_d (fun hx => ?_) (fun hx => ?_)
  · simp (disch := omega) only [push_cast, Nat.reduceEqDiff]
    have hc := cmpC_l (y := y) hx
    exact finIs (hL _ _ _) (by unfold cmpO; rw [hc, if_neg hx])
  simp (disch := omega) only [push_cast, Nat.reduceEqDiff]
  refine loadX_agg Shp.eq mem2 rfl rfl ?_
  simp (disch := omega) only [push_cast, Nat.reduceEqDiff]
  refine loadX_agg Shp.eq mem0 rfl rfl ?_
  simp (disch := omega) only [push_cast, Nat.reduceEqDiff]
  refine callV en_17 (callX_is (fun w' hw' => fitsRef_walk w' lo (Nat.le_trans hlo hw'.size) f y a ya c yc (hA.sy hlo hw' (hL _ _ _)) hfn (hY.sy hlo hw' (hL _ _ _))) ?_)
  simp (disch := omega) only [push_cast, Nat.reduceEqDiff]
  rw [V_cond]
  simp (disch := omega) only [push_cast, Nat.reduceEqDiff]
  refine condX_d (fun hy => ?_) (fun hy => ?_)
  · simp (disch := omega) only [push_cast, Nat.reduceEqDiff]
    have hc := cmpC_r hx hy
    exact finIs (hL _ _ _) (by unfold cmpO; rw [hc, if_neg hy])
  have hm := fits_both hx hy
  have hc : cmpC f x y = 0 := by unfold cmpC; rw [hm.1, hm.2.1, hm.2.2]; rfl
  have hgx : fitD 64 f x = true := (Bool.and_eq_true_iff.1 hm.2.1).1
  have hgy : fitD 64 f y = true := (Bool.and_eq_true_iff.1 hm.2.2).1
  simp (disch := omega) only [push_cast, Nat.reduceEqDiff]
  refine loadX_agg Shp.eq mem2 rfl rfl ?_
  simp (disch := omega) only [push_cast, Nat.reduceEqDiff]
  refine loadX_agg Shp.eq mem1 rfl rfl ?_
  simp (disch := omega) only [push_cast, Nat.reduceEqDiff]
  refine loadX_agg Shp.eq mem0 rfl rfl ?_
  simp (disch := omega) only [push_cast, Nat.reduceEqDiff]
  refine callV en_27 (callX_is (fun w' hw' => orderR_all 64 w' lo f x y a xa ya c xc yc (Nat.le_trans hlo hw'.size) (mayD_okD hm.1) hgx hgy (hA.sy hlo hw' (hL _ _ _)) (hX.sy hlo hw' (hL _ _ _)) (hY.sy hlo hw' (hL _ _ _))) ?_)
  simp (disch := omega) only [push_cast, Nat.reduceEqDiff]
  exact finIs (hL _ _ _) (by unfold cmpO; rw [hc]; rfl)
end Go.Proofs.YtjkogfiidhjpcaaDoor
