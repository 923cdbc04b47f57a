/- YtjkogfiidhjpcaaDoor: walks, part 93: Compare of any three values is an order of all that fit. -/
import Derived.Test.YtjkogfiidhjpcaaDoorW92
namespace Go.Proofs.YtjkogfiidhjpcaaDoor
open Go Go.K
set_option maxRecDepth 100000
set_option linter.unusedVariables false
set_option linter.unusedSimpArgs false
set_option maxHeartbeats 4000000
abbrev fA3 : Fld := .mk [97] false 3 0 0 0 []
abbrev vN (n : Int) : Vl := .mk false n [] []
/-- What follows several ways alike is shown once. -/
theorem shareS {c : Cfg} {code : Code} {Q : Post} {wb : World} {ds : List Deferred} {L : Own} {A : Prop} (F : Env → Prop) (br : (∀ e, F e → SemT c (tag code) (tag Q) wb e ds L) → A) (lt : ∀ e, F e → SemT c (tag code) (tag Q) wb e ds L) : A := br lt
theorem shareV {c : Cfg} {code : Code} {Q : Post} {wb : World} {ds : List Deferred} {L : Own} {A : Prop} (F : Env → Prop) (br : (∀ e, F e → VT c (tag code) (tag Q) wb e ds L) → A) (lt : ∀ e, F e → VT c (tag code) (tag Q) wb e ds L) : A := br lt
theorem fA3_at (w : World) (lo : Nat) : FlAt w lo fA3 none 0 := ⟨.nil _, Nat.le_refl _, by omega⟩
theorem vN_at (w : World) (lo : Nat) (n : Int) (hn : -9223372036854775808 ≤ n ∧ n < 9223372036854775808) : VAt w lo (vN n) none 0 := ⟨.nil _, Nat.le_refl _, by omega, by simp [Vl.tx], hn⟩
theorem may_A3 : mayD fA3 = true := by decide
theorem fit_A3 (n : Int) (h : -128 ≤ n ∧ n < 128) : goodD fA3 (vN n) = true := by
  have h1 : rangedP 3 n = true := by
    have : rangedP 3 n = (decide ((-128 : Int) ≤ n) && decide (n < 128)) := rfl
    rw [this]; simp [h]
  unfold goodD
  rw [fitD]
  simp [Vl.ls, Vl.nu, Vl.tx, Vl.num, Fld.k, wV, wL, wholeP, h1]
theorem fits_A3 : fitsP fA3 (vN 5) = 0 := by unfold fitsP; rw [may_A3, fit_A3 5 (by omega)]; rfl
theorem cmpC_A3 : cmpC fA3 (vN 5) (vN (-5)) = 0 := by unfold cmpC; rw [may_A3, fit_A3 5 (by omega), fit_A3 (-5) (by omega)]; rfl
theorem cmpO_A3 : cmpO fA3 (vN 5) (vN (-5)) = 1 := by
  unfold cmpO; rw [if_pos cmpC_A3, ordD]; simp [Vl.nu, Vl.num, Fld.k, cmpZ]
theorem un_neg {P : Program} {K : Value → Prop} (x : Int) (h : -9223372036854775808 < x ∧ x < 9223372036854775808) : PureX P (Op.unary .neg (i64 x)) (tag K) = K (i64 (-x)) := px (fun w => by
  have : IntKind.i64.wrap (0 - x) = -x := by simp [IntKind.wrap, IntKind.bits, IntKind.signed]; omega
  simp only [Op.unary, Op.intArith, this, Sem.run_pure]) K
theorem good_fit {f : Fld} {v : Vl} (h : goodD f v = true) : fitD 64 f v = true := (Bool.and_eq_true_iff.1 h).1
theorem fitsP_zero (f : Fld) (v : Vl) : fitsP f v = 0 ↔ mayD f = true ∧ goodD f v = true := by
  unfold fitsP
  rcases mayD f <;> rcases goodD f v <;> simp
theorem cmpC_zero (f : Fld) (x y : Vl) : cmpC f x y = 0 ↔ fitsP f x = 0 ∧ fitsP f y = 0 := by
  rw [fitsP_zero, fitsP_zero]
  unfold cmpC
  rcases mayD f <;> rcases goodD f x <;> rcases goodD f y <;> simp
theorem cmpO_rng (f : Fld) {x y : Vl} (hx : rnV x) (hy : rnV y) : cmpO f x y = -1 ∨ cmpO f x y = 0 ∨ cmpO f x y = 1 := by
  unfold cmpO
  by_cases h : cmpC f x y = 0
  · rw [if_pos h]
    obtain ⟨h1, h2⟩ := (cmpC_zero f x y).1 h
    exact (ord_D 64 f).rng x y ⟨good_fit ((fitsP_zero f x).1 h1).2, hx⟩ ⟨good_fit ((fitsP_zero f y).1 h2).2, hy⟩
  · rw [if_neg h]; omega
theorem cmpO_anti (f : Fld) {x y : Vl} (hx : rnV x) (hy : rnV y) : cmpO f x y = - cmpO f y x := by
  unfold cmpO
  by_cases h : cmpC f x y = 0
  · have h' : cmpC f y x = 0 := (cmpC_zero f y x).2 ((cmpC_zero f x y).1 h).symm
    rw [if_pos h, if_pos h']
    obtain ⟨h1, h2⟩ := (cmpC_zero f x y).1 h
    exact (ord_D 64 f).anti x y ⟨good_fit ((fitsP_zero f x).1 h1).2, hx⟩ ⟨good_fit ((fitsP_zero f y).1 h2).2, hy⟩
  · have h' : ¬ cmpC f y x = 0 := fun h' => h ((cmpC_zero f x y).2 ((cmpC_zero f y x).1 h').symm)
    rw [if_neg h, if_neg h']; rfl
/-- What is known of three values that fit. -/
structure Ranked (f : Fld) (x y z : Vl) : Prop where
  t1 : cmpO f x y ≤ 0 → cmpO f y z ≤ 0 → cmpO f x z ≤ 0
  t2 : 0 ≤ cmpO f x y → 0 ≤ cmpO f y z → 0 ≤ cmpO f x z
  s : sameV x y = decide (cmpO f x y = 0)
  n : x.nu = true → cmpO f x y ≤ 0
  h : sameV x y = true → hashP x = hashP y
theorem ranked {f : Fld} {x y z : Vl} (hx : rnV x) (hy : rnV y) (hz : rnV z) (h1 : fitsP f x = 0) (h2 : fitsP f y = 0) (h3 : fitsP f z = 0) : Ranked f x y z := by
  have e : ∀ u v, fitsP f u = 0 → fitsP f v = 0 → cmpO f u v = ordD 64 f u v := fun u v hu hv => by unfold cmpO; rw [if_pos ((cmpC_zero f u v).2 ⟨hu, hv⟩)]
  have S : ∀ v, rnV v → fitsP f v = 0 → fitD 64 f v = true ∧ rnV v := fun v hr hv => ⟨good_fit ((fitsP_zero f v).1 hv).2, hr⟩
  have O := ord_D 64 f
  have a1 := O.anti x y (S x hx h1) (S y hy h2)
  have a2 := O.anti y z (S y hy h2) (S z hz h3)
  have a3 := O.anti x z (S x hx h1) (S z hz h3)
  have T := O.tr z y x (S z hz h3) (S y hy h2) (S x hx h1)
  refine ⟨?_, ?_, ?_, ?_, ?_⟩
  · rw [e x y h1 h2, e y z h2 h3, e x z h1 h3]; exact O.tr x y z (S x hx h1) (S y hy h2) (S z hz h3)
  · rw [e x y h1 h2, e y z h2 h3, e x z h1 h3]
    intro q1 q2
    have := T (by omega) (by omega)
    omega
  · rw [e x y h1 h2, Bool.eq_iff_iff, sameV_iff, decide_eq_true_iff]
    constructor
    · rintro rfl; exact O.refl (S x hx h1)
    · exact O.eq x y (S x hx h1) (S y hy h2)
  · intro hn
    rw [e x y h1 h2]
    rcases hyn : y.nu with _ | _
    · rw [show (64 : Nat) = 63 + 1 from rfl, ordD, if_pos (by simp [hn]), if_neg (by simp [hn, hyn]), if_pos hn]; omega
    · rw [show (64 : Nat) = 63 + 1 from rfl, ordD, if_pos (by simp [hn]), if_pos (by simp [hn, hyn])]; omega
  · intro hs; rw [(sameV_iff x y).1 hs]
theorem valueRanks_walk (w : World) (hs : SaysAt w) (hTb : TabsAt w) (lo : Nat) (hlo : lo ≤ w.heap.size) (f : Fld) (x y z : Vl) (a xa ya za : Option Addr) (c xc yc zc : Nat) (hA : FlAt w lo f a c) (hfn : f.nm.length ≤ 9223372036854775807) (hX : VAt w lo x xa xc) (hY : VAt w lo y ya yc) (hZ : VAt w lo z za zc) :
    Calls Tryd.prog 4 #[.agg (f.cells a c).toArray, .agg (x.cells xa xc).toArray, .agg (y.cells ya yc).toArray, .agg (z.cells za zc).toArray] w (Rets w (Is (.bool true))) := by
  have hxy := cmpO_anti f hX.rn hY.rn
  have rxy := cmpO_rng f hX.rn hY.rn
  have ryx := cmpO_rng f hY.rn hX.rn
  have zxy := cmpC_zero f x y
  have zyx := cmpC_zero f y x
  have zyz := cmpC_zero f y z
  have zxz := cmpC_zero f x z
  refine enterT (args := [.agg (f.cells a c).toArray, .agg (x.cells xa xc).toArray, .agg (y.cells ya yc).toArray, .agg (z.cells za zc).toArray]) Tryd.func4 rfl Tryd.ntmps4 (congrArg Array.toList Tryd.results4) (by kernel_rfl) (by simp) (Sy.refl w) ?_
  simp (disch := omega) only [push_cast, Nat.reduceEqDiff, Fld.cells, Vl.cells]
  refine newI (fun b4 hb4 hn4 => ?_)
  simp (disch := omega) only [push_cast, Nat.reduceEqDiff, Fld.cells, Vl.cells]
  refine newI (fun b5 hb5 hn5 => ?_)
  simp (disch := omega) only [push_cast, Nat.reduceEqDiff, Fld.cells, Vl.cells]
  refine newI (fun b6 hb6 hn6 => ?_)
  simp (disch := omega) only [push_cast, Nat.reduceEqDiff, Fld.cells, Vl.cells]
  refine newI (fun b7 hb7 hn7 => ?_)
  simp (disch := omega) only [push_cast, Nat.reduceEqDiff, Fld.cells, Vl.cells]
  have hL : ∀ x y z u : Obj, ∀ p ∈ [(b7, x), (b6, y), (b5, z), (b4, u)], w.heap.size ≤ p.1 := fun x y z u p hp => by
    simp only [List.mem_cons, List.mem_nil_iff, or_false] at hp
    rcases hp with rfl | rfl | rfl | rfl
    · exact hb7
    · exact hb6
    · exact hb5
    · exact hb4
  refine callV en_16 (callX_is (fun w' hw' => fits_rung w' (hs.mono hw' (hL _ _ _ _)) lo (hTb.mono hw' (hL _ _ _ _)) (Nat.le_trans hlo hw'.size) fA3 (vN 5) none none 0 0 (fA3_at _ _) (by simp [Fld.nm]) (vN_at _ _ _ (by omega))) ?_)
  rw [fits_A3]
  simp (disch := omega) only [push_cast, Nat.reduceEqDiff]
  rw [V_cond]
  simp (disch := omega) only [push_cast, Nat.reduceEqDiff]
  refine condX_d (fun h => absurd rfl h) (fun _ => ?_)
  simp (disch := omega) only [push_cast, Nat.reduceEqDiff]
  refine loadX_agg Shp.eq mem3 rfl rfl ?_
  simp (disch := omega) only [push_cast, Nat.reduceEqDiff]
  refine loadX_agg Shp.eq mem2 rfl rfl ?_
  simp (disch := omega) only [push_cast, Nat.reduceEqDiff]
  refine loadX_agg Shp.eq mem1 rfl rfl ?_
  simp (disch := omega) only [push_cast, Nat.reduceEqDiff]
  have kC := fun (u v : Vl) (ua va : Option Addr) (uc vc : Nat) (hU : VAt w lo u ua uc) (hV : VAt w lo v va vc) (w' : World) (p q r s : Obj) (hw' : Sy w [(b7, p), (b6, q), (b5, r), (b4, s)] w') => compare_rung w' (hs.mono hw' (hL _ _ _ _)) lo (hTb.mono hw' (hL _ _ _ _)) (Nat.le_trans hlo hw'.size) f u v a ua va c uc vc (hA.sy hlo hw' (hL _ _ _ _)) hfn (hU.sy hlo hw' (hL _ _ _ _)) (hV.sy hlo hw' (hL _ _ _ _))
  have kF := fun (u : Vl) (ua : Option Addr) (uc : Nat) (hU : VAt w lo u ua uc) (w' : World) (p q r s : Obj) (hw' : Sy w [(b7, p), (b6, q), (b5, r), (b4, s)] w') => fits_rung w' (hs.mono hw' (hL _ _ _ _)) lo (hTb.mono hw' (hL _ _ _ _)) (Nat.le_trans hlo hw'.size) f u a ua c uc (hA.sy hlo hw' (hL _ _ _ _)) hfn (hU.sy hlo hw' (hL _ _ _ _))
  refine callV en_6 (callX_is (fun w' hw' => kC x y _ _ _ _ hX hY w' _ _ _ _ hw') ?_)
  simp (disch := omega) only [push_cast, Nat.reduceEqDiff]
  refine loadX_agg Shp.eq mem3 rfl rfl ?_
  simp (disch := omega) only [push_cast, Nat.reduceEqDiff]
  refine loadX_agg Shp.eq mem1 rfl rfl ?_
  simp (disch := omega) only [push_cast, Nat.reduceEqDiff]
  refine loadX_agg Shp.eq mem2 rfl rfl ?_
  simp (disch := omega) only [push_cast, Nat.reduceEqDiff]
  refine callV en_6 (callX_is (fun w' hw' => kC y x _ _ _ _ hY hX w' _ _ _ _ hw') ?_)
  simp (disch := omega) only [push_cast, Nat.reduceEqDiff]
  refine loadX_agg Shp.eq mem3 rfl rfl ?_
  simp (disch := omega) only [push_cast, Nat.reduceEqDiff]
  refine loadX_agg Shp.eq mem1 rfl rfl ?_
  simp (disch := omega) only [push_cast, Nat.reduceEqDiff]
  refine loadX_agg Shp.eq mem0 rfl rfl ?_
  simp (disch := omega) only [push_cast, Nat.reduceEqDiff]
  refine callV en_6 (callX_is (fun w' hw' => kC y z _ _ _ _ hY hZ w' _ _ _ _ hw') ?_)
  simp (disch := omega) only [push_cast, Nat.reduceEqDiff]
  refine loadX_agg Shp.eq mem3 rfl rfl ?_
  simp (disch := omega) only [push_cast, Nat.reduceEqDiff]
  refine loadX_agg Shp.eq mem2 rfl rfl ?_
  simp (disch := omega) only [push_cast, Nat.reduceEqDiff]
  refine loadX_agg Shp.eq mem0 rfl rfl ?_
  simp (disch := omega) only [push_cast, Nat.reduceEqDiff]
  refine callV en_6 (callX_is (fun w' hw' => kC x z _ _ _ _ hX hZ w' _ _ _ _ hw') ?_)
  simp (disch := omega) only [push_cast, Nat.reduceEqDiff]
  refine loadX_agg Shp.eq mem3 rfl rfl ?_
  simp (disch := omega) only [push_cast, Nat.reduceEqDiff]
  refine loadX_agg Shp.eq mem2 rfl rfl ?_
  simp (disch := omega) only [push_cast, Nat.reduceEqDiff]
  refine callV en_16 (callX_is (fun w' hw' => kF x _ _ hX w' _ _ _ _ hw') ?_)
  simp (disch := omega) only [push_cast, Nat.reduceEqDiff]
  refine loadX_agg Shp.eq mem3 rfl rfl ?_
  simp (disch := omega) only [push_cast, Nat.reduceEqDiff]
  refine loadX_agg Shp.eq mem1 rfl rfl ?_
  simp (disch := omega) only [push_cast, Nat.reduceEqDiff]
  refine callV en_16 (callX_is (fun w' hw' => kF y _ _ hY w' _ _ _ _ hw') ?_)
  simp (disch := omega) only [push_cast, Nat.reduceEqDiff]
  refine loadX_agg Shp.eq mem3 rfl rfl ?_
  simp (disch := omega) only [push_cast, Nat.reduceEqDiff]
  refine loadX_agg Shp.eq mem0 rfl rfl ?_
  simp (disch := omega) only [push_cast, Nat.reduceEqDiff]
  refine callV en_16 (callX_is (fun w' hw' => kF z _ _ hZ w' _ _ _ _ hw') ?_)
  simp (disch := omega) only [push_cast, Nat.reduceEqDiff]
  refine forgetG (fun e => e 5 = .pointer (some ⟨b5, 0, none⟩) ∧ e 6 = .pointer (some ⟨b6, 0, none⟩) ∧ e 9 = i64 (cmpO f x y) ∧ e 10 = i64 (cmpC f x y) ∧ e 11 = i64 (cmpO f y x) ∧ e 12 = i64 (cmpC f y x) ∧ e 13 = i64 (cmpO f y z) ∧ e 14 = i64 (cmpC f y z) ∧ e 15 = i64 (cmpO f x z) ∧ e 16 = i64 (cmpC f x z) ∧ e 17 = i64 (fitsP f x) ∧ e 18 = i64 (fitsP f y) ∧ e 19 = i64 (fitsP f z) ∧ e 67 = .bool (decide (fitsP f x ≠ 0))) ⟨rfl, rfl, rfl, rfl, rfl, rfl, rfl, rfl, rfl, rfl, rfl, rfl, rfl, rfl⟩ ?_
  rintro e ⟨h5, h6, h9, h10, h11, h12, h13, h14, h15, h16, h17, h18, h19, h67⟩
  clear kC kF
  by_cases hfit : fitsP f x = 0 ∧ fitsP f y = 0 ∧ fitsP f z = 0
  rotate_left
  · refine shareV (c := ?yc) (code := ?ycode) (Q := ?yQ) (wb := ?ywb) (ds := ?yds) (L := ?yL) (fun e => e 9 = i64 (cmpO f x y) ∧ e 10 = i64 (cmpC f x y) ∧ e 11 = i64 (cmpO f y x) ∧ e 17 = i64 (fitsP f x) ∧ e 18 = i64 (fitsP f y) ∧ e 74 = .bool true) (fun tail => ?br) ?lt
    case br =>
      refine guardX_f h67 (fun f1 => ?_) (fun f1 => ?_)
      focus
        simp (disch := omega) only [push_cast, Nat.reduceEqDiff, h5, h6, h9, h10, h11, h12, h13, h14, h15, h16, h17, h18, h19]
        refine guardX_f rfl (fun f2 => ?_) (fun f2 => ?_)
        focus
          simp (disch := omega) only [push_cast, Nat.reduceEqDiff, h5, h6, h9, h10, h11, h12, h13, h14, h15, h16, h17, h18, h19]
          refine tail _ ?_
          exact ⟨h9, h10, h11, h17, h18, by simp only [upd]; exact congrArg Value.bool (decide_eq_true (fun f3 => hfit ⟨by omega, by omega, f3⟩))⟩
      all_goals
        simp (disch := omega) only [push_cast, Nat.reduceEqDiff, h5, h6, h9, h10, h11, h12, h13, h14, h15, h16, h17, h18, h19]
        repeat' (refine guardX_f rfl (fun h => ?_) (fun h => ?_) <;> simp (disch := omega) only [push_cast, Nat.reduceEqDiff, h5, h6, h9, h10, h11, h12, h13, h14, h15, h16, h17, h18, h19])
        all_goals first | (refine tail _ ?_; exact ⟨h9, h10, h11, h17, h18, rfl⟩) | skip
    case lt =>
      clear h5 h6 h9 h10 h11 h12 h13 h14 h15 h16 h17 h18 h19 h67 e
      rintro e ⟨h9, h10, h11, h17, h18, h74⟩
      rw [V_cond]
      simp (disch := omega) only [push_cast, Nat.reduceEqDiff, h9, h10, h11, h17, h18, h74]
      have hb : (decide (cmpC f x y = 0) == (decide (fitsP f x = 0) && decide (fitsP f y = 0))) = true := by
        rw [beq_iff_eq, ← Bool.decide_and, decide_eq_decide]; exact zxy
      refine guardX_t rfl (fun q => ?_) (fun q => ?_)
      focus
        rw [decide_eq_true q, Bool.true_and] at hb
      rotate_left
      focus
        rw [decide_eq_false q, Bool.false_and] at hb
      all_goals
        simp (disch := omega) only [push_cast, Nat.reduceEqDiff, h9, h10, h11, h17, h18, h74]
        refine guardX_bt rfl (fun q2 => ?_) (fun q2 => absurd (hb.symm.trans q2) (by decide))
        simp (disch := omega) only [push_cast, Nat.reduceEqDiff, h9, h10, h11, h17, h18, h74]
        rw [un_neg _ (by omega)]
        simp (disch := omega) only [push_cast, Nat.reduceEqDiff, h9, h10, h11, h17, h18, h74]
        exact finIs (hL _ _ _ _) (congrArg Value.bool (decide_eq_true hxy))
  --<
  obtain ⟨f1, f2, f3⟩ := hfit
  refine guardX_f h67 (fun _ => ?_) (fun h => absurd f1 h)
  simp (disch := omega) only [push_cast, Nat.reduceEqDiff, h5, h6, h9, h10, h11, h12, h13, h14, h15, h16, h17, h18, h19]
  refine guardX_f rfl (fun _ => ?_) (fun h => absurd f2 h)
  simp (disch := omega) only [push_cast, Nat.reduceEqDiff, h5, h6, h9, h10, h11, h12, h13, h14, h15, h16, h17, h18, h19]
  rw [V_cond]
  simp (disch := omega) only [push_cast, Nat.reduceEqDiff, h5, h6, h9, h10, h11, h12, h13, h14, h15, h16, h17, h18, h19]
  refine condX_d (fun h => absurd f3 h) (fun _ => ?_)
  simp (disch := omega) only [push_cast, Nat.reduceEqDiff, h5, h6, h9, h10, h11, h12, h13, h14, h15, h16, h17, h18, h19]
  have g1 : cmpC f x y = 0 := zxy.2 ⟨f1, f2⟩
  have g2 : cmpC f y x = 0 := zyx.2 ⟨f2, f1⟩
  have g3 : cmpC f y z = 0 := zyz.2 ⟨f2, f3⟩
  have g4 : cmpC f x z = 0 := zxz.2 ⟨f1, f3⟩
  have RK := ranked hX.rn hY.rn hZ.rn f1 f2 f3
  have t1 := RK.t1
  have t2 := RK.t2
  refine guardX_f rfl (fun _ => ?_) (fun h => absurd g1 h)
  simp (disch := omega) only [push_cast, Nat.reduceEqDiff, h5, h6, h9, h10, h11, h12, h13, h14, h15, h16, h17, h18, h19]
  refine guardX_f rfl (fun _ => ?_) (fun h => absurd g2 h)
  simp (disch := omega) only [push_cast, Nat.reduceEqDiff, h5, h6, h9, h10, h11, h12, h13, h14, h15, h16, h17, h18, h19]
  refine guardX_f rfl (fun _ => ?_) (fun h => absurd g3 h)
  simp (disch := omega) only [push_cast, Nat.reduceEqDiff, h5, h6, h9, h10, h11, h12, h13, h14, h15, h16, h17, h18, h19]
  refine guardX_f rfl (fun _ => ?_) (fun h => absurd g4 h)
  simp (disch := omega) only [push_cast, Nat.reduceEqDiff, h5, h6, h9, h10, h11, h12, h13, h14, h15, h16, h17, h18, h19]
  rw [un_neg _ (by omega)]
  simp (disch := omega) only [push_cast, Nat.reduceEqDiff, h5, h6, h9, h10, h11, h12, h13, h14, h15, h16, h17, h18, h19]
  rw [V_cond]
  simp (disch := omega) only [push_cast, Nat.reduceEqDiff, h5, h6, h9, h10, h11, h12, h13, h14, h15, h16, h17, h18, h19]
  refine condX_d (fun h => absurd hxy h) (fun _ => ?_)
  simp (disch := omega) only [push_cast, Nat.reduceEqDiff, h5, h6, h9, h10, h11, h12, h13, h14, h15, h16, h17, h18, h19]
  refine shareS (c := ?zc) (code := ?zcode) (Q := ?zQ) (wb := ?zwb) (ds := ?zds) (L := ?zL) (fun e => e 5 = .pointer (some ⟨b5, 0, none⟩) ∧ e 6 = .pointer (some ⟨b6, 0, none⟩) ∧ e 9 = i64 (cmpO f x y) ∧ e 20 = .bool (decide (cmpO f x y = 0))) (fun tail => ?br) ?lt
  case br =>
    repeat' (first | ((first | refine guardX_t rfl (fun h => ?_) (fun h => ?_) | refine guardX_f rfl (fun h => ?_) (fun h => ?_)) <;> first | (exfalso; omega) | simp (disch := omega) only [push_cast, Nat.reduceEqDiff, h5, h6, h9, h10, h11, h12, h13, h14, h15, h16, h17, h18, h19]))
    all_goals
      rw [V_cond]
      simp (disch := omega) only [push_cast, Nat.reduceEqDiff, h5, h6, h9, h10, h11, h12, h13, h14, h15, h16, h17, h18, h19]
      try
        refine condX_d (fun h => by exfalso; omega) (fun h => ?_)
        simp (disch := omega) only [push_cast, Nat.reduceEqDiff, h5, h6, h9, h10, h11, h12, h13, h14, h15, h16, h17, h18, h19]
      refine loadX_agg Shp.eq mem2 rfl rfl ?_
      simp (disch := omega) only [push_cast, Nat.reduceEqDiff, h5, h6, h9, h10, h11, h12, h13, h14, h15, h16, h17, h18, h19]
      refine loadX_agg Shp.eq mem1 rfl rfl ?_
      simp (disch := omega) only [push_cast, Nat.reduceEqDiff, h5, h6, h9, h10, h11, h12, h13, h14, h15, h16, h17, h18, h19]
      refine callV en_10 (callX_is (fun w' hw' => same_all _ w' lo x y xa ya xc yc (Nat.le_refl _) (Nat.le_trans hlo hw'.size) (hX.sy hlo hw' (hL _ _ _ _)) (hY.sy hlo hw' (hL _ _ _ _))) ?_)
      simp (disch := omega) only [push_cast, Nat.reduceEqDiff, h5, h6, h9, h10, h11, h12, h13, h14, h15, h16, h17, h18, h19]
      rw [RK.s]
      refine tail _ ?_
      exact ⟨h5, h6, h9, rfl⟩
  case lt =>
    clear h5 h6 h9 h10 h11 h12 h13 h14 h15 h16 h17 h18 h19 h67 e
    rintro e ⟨q5, q6, q9, q20⟩
    refine drawQT (by kernel_rfl) (by kernel_rfl) mixed (by kernel_rfl) ?_
    simp (disch := omega) only [push_cast, Nat.reduceEqDiff, q5, q6, q9, q20, bne_self_eq_false]
    refine ldOne Shp.eq mem2 rfl ?_
    simp (disch := omega) only [push_cast, Nat.reduceEqDiff, q5, q6, q9, q20]
    refine guardX_bt rfl (fun hnu => ?_) (fun hnu => ?_)
    focus
      have hn1 := RK.n hnu
      simp (disch := omega) only [push_cast, Nat.reduceEqDiff, q5, q6, q9, q20]
      refine guardX_f rfl (fun _ => ?_) (fun h => absurd h (by omega))
      simp (disch := omega) only [push_cast, Nat.reduceEqDiff, q5, q6, q9, q20]
    rotate_left
    focus
      simp (disch := omega) only [push_cast, Nat.reduceEqDiff, q5, q6, q9, q20]
    all_goals
      refine guardX_t rfl (fun h0 => ?_) (fun h0 => ?_)
      focus
        have hss : hashP x = hashP y := RK.h (by rw [RK.s]; simp [h0])
        simp (disch := omega) only [push_cast, Nat.reduceEqDiff, q5, q6, q9, q20]
        refine loadX_agg Shp.eq mem2 rfl rfl ?_
        simp (disch := omega) only [push_cast, Nat.reduceEqDiff, q5, q6, q9, q20]
        refine qcallV en_12 (qcallX_is (.int .u64 (hashP x)) (fun w' hw' => hash_walk w' lo x xa xc (Nat.le_trans hlo hw'.size) (hX.sy hlo hw' (hL _ _ _ _))) ?_)
        simp (disch := omega) only [push_cast, Nat.reduceEqDiff, q5, q6, q9, q20]
        refine loadX_agg Shp.eq mem1 rfl rfl ?_
        simp (disch := omega) only [push_cast, Nat.reduceEqDiff, q5, q6, q9, q20]
        refine qcallV en_12 (qcallX_is (.int .u64 (hashP y)) (fun w' hw' => hash_walk w' lo y ya yc (Nat.le_trans hlo hw'.size) (hY.sy hlo hw' (hL _ _ _ _))) ?_)
        rw [← hss]
        simp (disch := omega) only [push_cast, Nat.reduceEqDiff, q5, q6, q9, q20, ne_eq, not_true_eq_false, decide_false]
      rotate_left
      focus
        simp (disch := omega) only [push_cast, Nat.reduceEqDiff, q5, q6, q9, q20]
      all_goals
        rw [V_cond]
        simp (disch := omega) only [push_cast, Nat.reduceEqDiff, q5, q6, q9, q20]
        try
          refine condX_b (fun h => by cases h) (fun _ => ?_)
          simp (disch := omega) only [push_cast, Nat.reduceEqDiff, q5, q6, q9, q20]
        refine callV en_6 (callX_is (fun w' hw' => compare_rung w' (hs.mono hw' (hL _ _ _ _)) lo (hTb.mono hw' (hL _ _ _ _)) (Nat.le_trans hlo hw'.size) fA3 (vN 5) (vN (-5)) none none none 0 0 0 (fA3_at _ _) (by simp [Fld.nm]) (vN_at _ _ _ (by omega)) (vN_at _ _ _ (by omega))) ?_)
        rw [cmpC_A3, cmpO_A3]
        simp (disch := omega) only [push_cast, Nat.reduceEqDiff, q5, q6, q9, q20]
        refine guardX_t rfl (fun _ => ?_) (fun h => absurd trivial h)
        simp (disch := omega) only [push_cast, Nat.reduceEqDiff, q5, q6, q9, q20]
        exact finIs (hL _ _ _ _) rfl
  -->
end Go.Proofs.YtjkogfiidhjpcaaDoor
