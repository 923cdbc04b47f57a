/- YtilejcofleeeiaaGreatDoor: walks, part 86: the items of a list; does a value fit a field. -/
import Derived.Test.YtilejcofleeeiaaGreatDoorW85
namespace Go.Proofs.YtilejcofleeeiaaGreatDoor
open Go Go.K
set_option maxRecDepth 100000
set_option linter.unusedVariables false
set_option linter.unusedSimpArgs false
set_option maxHeartbeats 2000000
/-- The first so many items fit. -/
def itemsN (d : Nat) (f : Fld) (l : List Vl) (i : Nat) : Bool := (List.range i).all fun j => match f.sub[childN f j]?, l[j]? with | some g, some x => fitD d g x | _, _ => false
theorem itemsD_eq (d : Nat) (f : Fld) (l : List Vl) : itemsD d f l = (decide (f.k = 16 → (l.length : Int) = f.wd) && (decide (f.k = 17 → l.length = f.sub.length) && itemsN d f l l.length)) := rfl
theorem itemsN_succ {d : Nat} {f g : Fld} {l : List Vl} {i : Nat} {x : Vl} (hg : f.sub[childN f i]? = some g) (hx : l[i]? = some x) : itemsN d f l (i + 1) = (itemsN d f l i && fitD d g x) := by
  unfold itemsN
  rw [List.range_succ, List.all_append]
  simp [hg, hx]
theorem itemsN_no {d : Nat} {f : Fld} {l : List Vl} {i n : Nat} (hin : i ≤ n) (h : itemsN d f l i = false) : itemsN d f l n = false := by
  induction hin with
  | refl => exact h
  | step _ ih =>
    unfold itemsN at *
    rw [List.range_succ, List.all_append, ih, Bool.false_and]
structure ItI (w0 : World) (bx b4 : Nat) (z : Int) (R : Own) (d : Nat) (f : Fld) (v : Vl) (a va : Option Addr) (c vc : Nat) (i : Nat) (wb : World) (e : Env) (ds : List Deferred) (L : Own) : Prop where
  hw : wb = w0
  hds : ds = []
  o : L = (b4, Obj.cells #[i64 f.k, i64 f.wd, i64 f.id, i64 f.ix, .slice a f.sub.length c] 24 (0, 0)) :: fitO bx (z - wL (v.ls.take i)) :: R
  hi : i ≤ v.ls.length
  hn : itemsN d f v.ls i = true
  hz : wL (v.ls.take i) ≤ z
  h0 : e 0 = .pointer (some ⟨bx, 0, none⟩)
  h4 : e 4 = .pointer (some ⟨b4, 0, none⟩)
  h33 : e 33 = .slice va v.ls.length vc
  h34 : e 34 = i64 v.ls.length
  h35 : e 35 = i64 i
theorem perm3 {α : Type} (a b x : α) (R : List α) : (a :: b :: x :: R).Perm (x :: a :: b :: R) := List.perm_middle (l₁ := [a, b])
theorem items_ok (d : Nat) (hF : FitsOK d) : ItemsOK d := by
  intro wb w lo bx z R f v a va c vc hTb hlo hok hk hA hV hz0 hz hR h4096 hw
  refine enterB (args := [.pointer (some ⟨bx, 0, none⟩), .agg #[i64 f.k, i64 f.wd, i64 f.id, i64 f.ix, .slice a f.sub.length c], .slice va v.ls.length vc]) Tryz.func80 rfl Tryz.ntmps80 (congrArg Array.toList Tryz.results80) (by kernel_rfl) (by simp) hw ?_
  obtain ⟨hsh, hsub⟩ := (show shapedF f ∧ ∀ g ∈ f.sub, okD d g from hok)
  simp (disch := omega) only [push_cast, Nat.reduceEqDiff]
  refine newI (fun b4 hb4 hn4 => ?_)
  simp (disch := omega) only [push_cast, Nat.reduceEqDiff]
  have hL1 : ∀ x : Obj, ∀ p ∈ [(b4, x)], wb.heap.size ≤ p.1 := fun x p hp => by rw [List.mem_singleton.1 hp]; exact hb4
  have hL2 : ∀ (x : Obj) (z : Int), ∀ p ∈ (b4, x) :: fitO bx z :: R, wb.heap.size ≤ p.1 := fun x z9 p hp => by
    simp only [List.mem_cons] at hp
    rcases hp with rfl | rfl | hp
    · exact hb4
    · exact hR (fitO bx z) (.head _)
    · exact hR p (.tail _ hp)
  refine ldOne Shp.eq mem0 rfl ?_
  simp (disch := omega) only [push_cast, Nat.reduceEqDiff]
  have hwl : ∀ i, i ≤ v.ls.length → (wL (v.ls.take i) : Int) ≤ wL v.ls := fun i hi => by have := wL_take_le v.ls i; omega
  refine guardX_t rfl (fun h16 => ?_) (fun h16 => ?_)
  rotate_left
  focus
    simp (disch := omega) only [push_cast, Nat.reduceEqDiff]
    refine ldOne Shp.eq mem0 rfl ?_
    simp (disch := omega) only [push_cast, Nat.reduceEqDiff]
    refine guardX_t rfl (fun h17 => ?_) (fun h17 => ?_)
    focus
      simp (disch := omega) only [push_cast, Nat.reduceEqDiff]
      refine ldOne Shp.eq mem0 rfl ?_
      simp (disch := omega) only [push_cast, Nat.reduceEqDiff]
      rw [V_cond]
      simp (disch := omega) only [push_cast, Nat.reduceEqDiff]
      refine condX_d (fun hn => ?_) (fun hn => ?_)
      · simp (disch := omega) only [push_cast, Nat.reduceEqDiff]
        have hfd : itemsD d f v.ls = false := by unfold itemsD; simp [h17]; intros; omega
        rw [hfd]
        exact fin_fit (A := [_]) (hL1 _) (by simp) rfl
      have hi16 : f.k = 16 → (v.ls.length : Int) = f.wd := fun h => absurd h (by omega)
      have hi17 : f.k = 17 → v.ls.length = f.sub.length := fun h => by omega
      clear hn
    rotate_left
    focus
      have hi16 : f.k = 16 → (v.ls.length : Int) = f.wd := fun h => absurd h (by omega)
      have hi17 : f.k = 17 → v.ls.length = f.sub.length := fun h => absurd h (by omega)
      simp (disch := omega) only [push_cast, Nat.reduceEqDiff]
      rw [V_cond]
    all_goals simp (disch := omega) only [push_cast, Nat.reduceEqDiff]
    all_goals clear h17
  rotate_left
  rotate_left
  focus
    simp (disch := omega) only [push_cast, Nat.reduceEqDiff]
    refine ldOne Shp.eq mem0 rfl ?_
    simp (disch := omega) only [push_cast, Nat.reduceEqDiff]
    refine guardX_f rfl (fun hw16 => ?_) (fun hw16 => ?_)
    rotate_left
    · simp (disch := omega) only [push_cast, Nat.reduceEqDiff]
      rw [V_cond]
      simp (disch := omega) only [push_cast, Nat.reduceEqDiff]
      have hfd : itemsD d f v.ls = false := by unfold itemsD; simp [h16]; intros; omega
      rw [hfd]
      exact fin_fit (A := [_]) (hL1 _) (by simp) rfl
    simp (disch := omega) only [push_cast, Nat.reduceEqDiff]
    refine ldOne Shp.eq mem0 rfl ?_
    simp (disch := omega) only [push_cast, Nat.reduceEqDiff]
    refine guardX_t rfl (fun h17 => absurd h17 (by omega)) (fun h17 => ?_)
    simp (disch := omega) only [push_cast, Nat.reduceEqDiff]
    have hi16 : f.k = 16 → (v.ls.length : Int) = f.wd := fun _ => by omega
    have hi17 : f.k = 17 → v.ls.length = f.sub.length := fun h => absurd h (by omega)
    rw [V_cond]
    simp (disch := omega) only [push_cast, Nat.reduceEqDiff]
    clear hw16 h17
  all_goals
    clear h16
    refine forget (fun e => e 0 = .pointer (some ⟨bx, 0, none⟩) ∧ e 4 = .pointer (some ⟨b4, 0, none⟩) ∧ e 33 = .slice va v.ls.length vc ∧ e 34 = i64 v.ls.length ∧ e 35 = i64 0) ⟨rfl, rfl, rfl, rfl, rfl⟩ ?_
    rintro e ⟨h0, h4, h33, h34, h35⟩
    rw [V_block]
    simp (disch := omega) only [push_cast, Nat.reduceEqDiff, h0, h4, h33, h34, h35]
    refine loopW (G := Nat) (ItI wb bx b4 z R d f v a va c vc) (fun i => v.ls.length - i) 0 _ (fun w hw => hw) (by kernel_rfl) ⟨rfl, rfl, by simp [wL], by omega, rfl, by simp [wL]; omega, h0, h4, h33, h34, by simpa using h35⟩ ?_
    clear h0 h4 h33 h34 h35 e
    rintro i wb e ds L ⟨rfl, rfl, rfl, hi, hn, hz', h0, h4, h33, h34, h35⟩
    simp (disch := omega) only [push_cast, Nat.reduceEqDiff, h0, h4, h33, h34, h35]
    rw [V_cond]
    simp (disch := omega) only [push_cast, Nat.reduceEqDiff, h0, h4, h33, h34, h35]
    refine condX_d (fun hlt => ?_) (fun hge => ?_)
    rotate_left
    · obtain rfl : i = v.ls.length := by omega
      simp (disch := omega) only [push_cast, Nat.reduceEqDiff, h0, h4, h33, h34, h35]
      have hfd : itemsD d f v.ls = true := by
        rw [itemsD_eq, decide_eq_true hi16, decide_eq_true hi17, hn]
        rfl
      rw [List.take_length] at hz'
      rw [List.take_length]
      exact fin_fit (A := [_]) (hL1 _) (by intro _; rfl) (by rw [hfd, decide_eq_true hz']; rfl)
    have hli : i < v.ls.length := by omega
    obtain ⟨x, hx⟩ : ∃ x, v.ls[i]? = some x := ⟨_, List.getElem?_eq_getElem hli⟩
    obtain ⟨g, hg⟩ : ∃ g, f.sub[childN f i]? = some g := by
      refine ⟨_, List.getElem?_eq_getElem ?_⟩
      unfold childN
      by_cases h17 : f.k = 17
      · rw [if_pos h17, ← hi17 h17]; exact hli
      · rw [if_neg h17]
        have h1 := hsh.2.2.2
        rcases hk with hk | hk | hk
        · rw [hk] at h1; simp [leastK, mostK] at h1; omega
        · rw [hk] at h1; simp [leastK, mostK] at h1; omega
        · exact absurd hk h17
    have hg' := hg
    have hpos : childN f i < f.sub.length := (List.getElem?_eq_some_iff.1 hg).1
    obtain ⟨gb, goff, ga, gc, rfl, g1, g2, g3⟩ := hA.get hg
    obtain ⟨xb, xoff, xa, xc, rfl, x1, x2, x3⟩ := hV.get hx
    have hfx := wL_take hx
    simp (disch := omega) only [push_cast, Nat.reduceEqDiff, h0, h4, h33, h34, h35]
    rw [V_block]
    simp (disch := omega) only [push_cast, Nat.reduceEqDiff, h0, h4, h33, h34, h35]
    refine ldAggF Shp.eq x2 rfl (out_of (fun p hp => Nat.lt_of_lt_of_le (Nat.lt_of_lt_of_le x1 hlo) (hL2 _ _ p hp))) ?_
    simp (disch := omega) only [push_cast, Nat.reduceEqDiff, h0, h4, h33, h34, h35, Vl.cells]
    refine newI (fun b8 hb8 hn8 => ?_)
    simp (disch := omega) only [push_cast, Nat.reduceEqDiff, h0, h4, h33, h34, h35]
    refine storeX 0 rfl Siz.eq rfl rfl (by simp [Value.oneCell']) (by simp) ?_
    simp (disch := omega) only [push_cast, Nat.reduceEqDiff, h0, h4, h33, h34, h35]
    refine ldOne Shp.eq mem1 rfl ?_
    simp (disch := omega) only [push_cast, Nat.reduceEqDiff, h0, h4, h33, h34, h35]
    rw [V_cond]
    simp (disch := omega) only [push_cast, Nat.reduceEqDiff, h0, h4, h33, h34, h35]
    have hL3 : ∀ (x y : Obj) (z : Int), ∀ p ∈ (b8, x) :: (b4, y) :: fitO bx z :: R, wb.heap.size ≤ p.1 := fun x y z9 p hp => by
      rcases List.mem_cons.1 hp with rfl | hp
      · exact hb8
      · exact hL2 _ _ p hp
    have hR2 : ∀ (z : Int) (x y : Obj), ∀ p ∈ fitO bx z :: (b8, x) :: (b4, y) :: R, wb.heap.size ≤ p.1 := fun z9 x y p hp => by
      simp only [List.mem_cons] at hp
      rcases hp with rfl | rfl | rfl | hp
      · exact hR (fitO bx z) (.head _)
      · exact hb8
      · exact hb4
      · exact hR p (.tail _ hp)
    have hL9 : ∀ x y : Obj, ∀ p ∈ [(b8, x), (b4, y)], wb.heap.size ≤ p.1 := fun x y p hp => by
      simp only [List.mem_cons, List.mem_nil_iff, or_false] at hp
      rcases hp with rfl | rfl
      · exact hb8
      · exact hb4
    have hL8 : ∀ x : Obj, ∀ p ∈ [(b8, x)], wb.heap.size ≤ p.1 := fun x p hp => by rw [List.mem_singleton.1 hp]; exact hb8
    refine condX_d (fun h17 => ?_) (fun h17 => ?_)
    focus
      have hch : childN f i = i := if_pos (by omega)
      rw [hch] at g2 hpos hg'
    rotate_left
    focus
      have hch : childN f i = 0 := if_neg (by omega)
      rw [hch] at g2 hpos hg'
      rw [Nat.zero_mul, Nat.add_zero] at g2
    all_goals
      simp (disch := omega) only [push_cast, Nat.reduceEqDiff, h0, h4, h33, h34, h35]
      refine drawTT 7 (by kernel_rfl) (by kernel_rfl) mixed (by kernel_rfl) rfl rfl ?_
      simp (disch := omega) only [push_cast, Nat.reduceEqDiff, h0, h4, h33, h34, h35]
      refine ldOne Shp.eq mem1 rfl ?_
      simp (disch := omega) only [push_cast, Nat.reduceEqDiff, h0, h4, h33, h34, h35]
      refine ldAggF Shp.eq g2 rfl (out_of (fun p hp => Nat.lt_of_lt_of_le (Nat.lt_of_lt_of_le g1 hlo) (hL3 _ _ _ p hp))) ?_
      simp (disch := omega) only [push_cast, Nat.reduceEqDiff, h0, h4, h33, h34, h35, Fld.cells]
      refine loadX_agg Shp.eq mem0 rfl rfl ?_
      simp (disch := omega) only [push_cast, Nat.reduceEqDiff, h0, h4, h33, h34, h35]
      refine callV en_45 (callX_base (fun w' hw' => hF wb w' lo bx (z - wL (v.ls.take i)) _ g x ga xa gc xc hTb hlo (hsub g (List.mem_of_getElem? hg)) g3 x3 (by omega) (by omega) (hR2 _ _ _) (hw'.perm (perm3 _ _ _ R))) ?_)
      rintro e' w' ⟨rfl, z', hz'', hs⟩
      refine ⟨_, _, rfl, hs, ?_⟩
      simp (disch := omega) only [push_cast, Nat.reduceEqDiff, h0, h4, h33, h34, h35]
      rw [V_cond]
      simp (disch := omega) only [push_cast, Nat.reduceEqDiff, h0, h4, h33, h34, h35]
      refine condX_b (fun hb => ?_) (fun hb => ?_)
      · simp (disch := omega) only [push_cast, Nat.reduceEqDiff, h0, h4, h33, h34, h35]
        have hres : (itemsD d f v.ls && decide ((wL v.ls : Int) ≤ z)) = false := by
          rw [Bool.not_eq_true'] at hb
          rcases Bool.and_eq_false_iff.1 hb with hb | hb
          · have h2 := itemsN_no (n := v.ls.length) (by omega) (show itemsN d f v.ls (i + 1) = false by rw [itemsN_succ (by rw [hch]; exact hg') hx, hb, Bool.and_false])
            rw [itemsD_eq, h2]; simp
          · have h2 := hwl (i + 1) (by omega)
            have h3 := of_decide_eq_false hb
            rw [decide_eq_false (by omega), Bool.and_false]
        exact fin_fit2 (A := [_, _]) (hL9 _ _) (by rw [hres]; simp) (by rw [hres])
      · rw [Bool.not_eq_false'] at hb
        simp (disch := omega) only [push_cast, Nat.reduceEqDiff, h0, h4, h33, h34, h35]
        have h3 := hz'' hb
        rw [Bool.and_eq_true] at hb
        have h4' := of_decide_eq_true hb.2
        refine ⟨i + 1, _, fun w hw => ((hw.mid [fitO bx z'] [_] (hL8 _))).perm (List.Perm.swap _ _ _), ⟨rfl, rfl, by rw [show z' = z - wL (v.ls.take (i + 1)) by omega], by omega, by rw [itemsN_succ (by rw [hch]; exact hg') hx, hn, hb.1]; rfl, by omega, h0, h4, h33, h34, by simp only [upd]; rfl⟩, by omega⟩
theorem fits_all : ∀ d, FitsOK d
  | 0 => fun wb w lo bx z R f v a va c vc hTb hlo hok => absurd hok (by simp [okD])
  | d + 1 => fits_step d (fits_all d) (items_ok d (fits_all d))
end Go.Proofs.YtilejcofleeeiaaGreatDoor
/- YtilejcofleeeiaaGreatDoor: walks, part 87: does a value fit a field, and why not. -/
namespace Go.Proofs.YtilejcofleeeiaaGreatDoor
open Go Go.K
set_option maxRecDepth 100000
set_option linter.unusedVariables false
set_option linter.unusedSimpArgs false
set_option maxHeartbeats 2000000
def mayD (f : Fld) : Bool := decide ((checkP [f] []).1 = 0)
def goodD (f : Fld) (v : Vl) : Bool := fitD 64 f v && decide ((wV v : Int) ≤ 4194304)
def fitsP (f : Fld) (v : Vl) : Int := if mayD f = true then (if goodD f v = true then 0 else 7) else 5
theorem mayD_okD {f : Fld} (h : mayD f = true) : okD 64 f := may_okD (nt := []) (by unfold mayP; simpa [mayD] using h)
theorem good_walk (w : World) (lo : Nat) (hTb : TabsAt w) (hlo : lo ≤ w.heap.size) (f : Fld) (v : Vl) (a va : Option Addr) (c vc : Nat) (hok : okD 64 f) (hA : FlAt w lo f a c) (hV : VAt w lo v va vc) :
    Calls Tryz.prog 22 #[.agg (f.cells a c).toArray, .agg (v.cells va vc).toArray] w (Rets w (Is (.bool (goodD f v)))) := by
  refine enterT (args := [.agg (f.cells a c).toArray, .agg (v.cells va vc).toArray]) Tryz.func22 rfl Tryz.ntmps22 (congrArg Array.toList Tryz.results22) (by kernel_rfl) (by simp) (Sy.refl w) ?_
  simp (disch := omega) only [push_cast, Nat.reduceEqDiff, Fld.cells, Vl.cells]
  refine newI (fun b2 hb2 hn2 => ?_)
  simp (disch := omega) only [push_cast, Nat.reduceEqDiff, Fld.cells, Vl.cells]
  refine newI (fun b3 hb3 hn3 => ?_)
  simp (disch := omega) only [push_cast, Nat.reduceEqDiff, Fld.cells, Vl.cells]
  refine newI (fun b5 hb5 hn5 => ?_)
  simp (disch := omega) only [push_cast, Nat.reduceEqDiff, Fld.cells, Vl.cells]
  refine loadX_agg Shp.eq mem2 rfl rfl ?_
  simp (disch := omega) only [push_cast, Nat.reduceEqDiff]
  refine loadX_agg Shp.eq mem1 rfl rfl ?_
  simp (disch := omega) only [push_cast, Nat.reduceEqDiff]
  have hL : ∀ x y z : Obj, ∀ p ∈ [(b5, x), (b3, y), (b2, z)], w.heap.size ≤ p.1 := fun x y z p hp => by
    simp only [List.mem_cons, List.mem_nil_iff, or_false] at hp
    rcases hp with rfl | rfl | rfl
    · exact hb5
    · exact hb3
    · exact hb2
  refine callV en_45 (callX_base (fun w' hw' => fits_all 64 w w' lo b5 4194304 [_, _] f v a va c vc hTb hlo hok hA hV (by decide) (by decide) (hL _ _ _) hw') ?_)
  rintro e' w' ⟨rfl, z', hz', hs⟩
  refine ⟨_, _, rfl, hs, ?_⟩
  simp (disch := omega) only [push_cast, Nat.reduceEqDiff]
  exact finIs (hL _ _ _) rfl
theorem may_walk (w : World) (hs : SaysAt w) (lo : Nat) (hlo : lo ≤ w.heap.size) (f : Fld) (a : Option Addr) (c : Nat) (hA : FlAt w lo f a c) (hfn : f.nm.length ≤ 9223372036854775807) :
    Calls Tryz.prog 21 #[.agg (f.cells a c).toArray] w (Rets w (Is (.bool (mayD f)))) := by
  refine enterT (args := [.agg (f.cells a c).toArray]) Tryz.func21 rfl Tryz.ntmps21 (congrArg Array.toList Tryz.results21) (by kernel_rfl) (by simp) (Sy.refl w) ?_
  simp (disch := omega) only [push_cast, Nat.reduceEqDiff, Fld.cells]
  refine newI (fun b1 hb1 hn1 => ?_)
  simp (disch := omega) only [push_cast, Nat.reduceEqDiff, Fld.cells]
  refine loadX_agg Shp.eq mem0 rfl rfl ?_
  simp (disch := omega) only [push_cast, Nat.reduceEqDiff]
  have hL : ∀ x : Obj, ∀ p ∈ [(b1, x)], w.heap.size ≤ p.1 := fun x p hp => by rw [List.mem_singleton.1 hp]; exact hb1
  refine callV en_44 (callX_new (fun w' hw' => checkField_walk w' (hs.mono hw' (hL _)) lo (Nat.le_trans hlo hw'.size) f a c (hA.sy hlo hw' (hL _)).hr hA.hc hA.hc2 hfn) (fun v M hM _ hv => ?_))
  obtain ⟨pa, pc, rfl, -⟩ := hv
  simp (disch := omega) only [push_cast, Nat.reduceEqDiff]
  refine finIs (fun p hp => ?_) rfl
  rcases List.mem_append.1 hp with hp | hp
  · exact hM p hp
  · exact hL _ p hp
theorem fits_rung (w : World) (hs : SaysAt w) (lo : Nat) (hTb : TabsAt w) (hlo : lo ≤ w.heap.size) (f : Fld) (v : Vl) (a va : Option Addr) (c vc : Nat) (hA : FlAt w lo f a c) (hfn : f.nm.length ≤ 9223372036854775807) (hV : VAt w lo v va vc) :
    Calls Tryz.prog 16 #[.agg (f.cells a c).toArray, .agg (v.cells va vc).toArray] w (Rets w (Is (i64 (fitsP f v)))) := by
  refine enterT (args := [.agg (f.cells a c).toArray, .agg (v.cells va vc).toArray]) Tryz.func16 rfl Tryz.ntmps16 (congrArg Array.toList Tryz.results16) (by kernel_rfl) (by simp) (Sy.refl w) ?_
  simp (disch := omega) only [push_cast, Nat.reduceEqDiff, Fld.cells, Vl.cells]
  refine newI (fun b2 hb2 hn2 => ?_)
  simp (disch := omega) only [push_cast, Nat.reduceEqDiff, Fld.cells, Vl.cells]
  refine newI (fun b3 hb3 hn3 => ?_)
  simp (disch := omega) only [push_cast, Nat.reduceEqDiff, Fld.cells, Vl.cells]
  rw [V_block]
  simp (disch := omega) only [push_cast, Nat.reduceEqDiff, Fld.cells, Vl.cells]
  have hL : ∀ x y : Obj, ∀ p ∈ [(b3, x), (b2, y)], w.heap.size ≤ p.1 := fun x y p hp => by
    simp only [List.mem_cons, List.mem_nil_iff, or_false] at hp
    rcases hp with rfl | rfl
    · exact hb3
    · exact hb2
  refine loadX_agg Shp.eq mem1 rfl rfl ?_
  simp (disch := omega) only [push_cast, Nat.reduceEqDiff]
  refine callV en_21 (callX_is (fun w' hw' => may_walk w' (hs.mono hw' (hL _ _)) lo (Nat.le_trans hlo hw'.size) f a c (hA.sy hlo hw' (hL _ _)) hfn) ?_)
  simp (disch := omega) only [push_cast, Nat.reduceEqDiff]
  rw [V_cond]
  simp (disch := omega) only [push_cast, Nat.reduceEqDiff]
  refine condX_b (fun hm => ?_) (fun hm => ?_)
  · simp (disch := omega) only [push_cast, Nat.reduceEqDiff]
    exact finIs (hL _ _) (congrArg i64 (by rw [Bool.not_eq_true'] at hm; unfold fitsP; rw [hm]; rfl))
  rw [Bool.not_eq_false'] at hm
  simp (disch := omega) only [push_cast, Nat.reduceEqDiff]
  refine loadX_agg Shp.eq mem1 rfl rfl ?_
  simp (disch := omega) only [push_cast, Nat.reduceEqDiff]
  refine loadX_agg Shp.eq mem0 rfl rfl ?_
  simp (disch := omega) only [push_cast, Nat.reduceEqDiff]
  refine callV en_22 (callX_is (fun w' hw' => good_walk w' lo (hTb.mono hw' (hL _ _)) (Nat.le_trans hlo hw'.size) f v a va c vc (mayD_okD hm) (hA.sy hlo hw' (hL _ _)) (hV.sy hlo hw' (hL _ _))) ?_)
  simp (disch := omega) only [push_cast, Nat.reduceEqDiff]
  rw [V_cond]
  simp (disch := omega) only [push_cast, Nat.reduceEqDiff]
  refine condX_b (fun hg => ?_) (fun hg => ?_)
  · simp (disch := omega) only [push_cast, Nat.reduceEqDiff]
    exact finIs (hL _ _) (congrArg i64 (by rw [Bool.not_eq_true'] at hg; unfold fitsP; rw [hm, hg]; rfl))
  · simp (disch := omega) only [push_cast, Nat.reduceEqDiff]
    rw [Bool.not_eq_false'] at hg
    exact finIs (hL _ _) (congrArg i64 (by unfold fitsP; rw [hm, hg]; rfl))
end Go.Proofs.YtilejcofleeeiaaGreatDoor
/- YtilejcofleeeiaaGreatDoor: walks, part 88: the order of the values of a field. -/
namespace Go.Proofs.YtilejcofleeeiaaGreatDoor
open Go Go.K
set_option maxRecDepth 100000
set_option linter.unusedVariables false
set_option linter.unusedSimpArgs false
set_option maxHeartbeats 40000000
theorem fit_wrap {d : Nat} {f g : Fld} {x : Vl} (hn : x.nu = false) (hk : f.k = 19 ∨ f.k = 20) (hg : f.sub[0]? = some g) (h : fitD (d + 1) f x = true) : fitD d g x = true := by
  rw [fitD, if_neg (by simp [hn]), if_pos hk, hg, Bool.and_eq_true] at h
  exact h.2
theorem fit_union {d : Nat} {f : Fld} {x : Vl} (hn : x.nu = false) (hk : f.k = 18) (h : fitD (d + 1) f x = true) : ∃ g z, f.sub[x.num.toNat]? = some g ∧ x.ls[0]? = some z ∧ x.ls.length = 1 ∧ 0 ≤ x.num ∧ x.num < f.sub.length ∧ fitD d g z = true := by
  rw [fitD, if_neg (by simp [hn]), if_neg (by omega), if_pos hk] at h
  simp only [Bool.and_eq_true, decide_eq_true_eq] at h
  obtain ⟨_, _, h1, h2, h3, h4⟩ := h
  obtain ⟨g, hg⟩ : ∃ g, f.sub[x.num.toNat]? = some g := ⟨_, List.getElem?_eq_getElem (by omega)⟩
  obtain ⟨z, hz⟩ : ∃ z, x.ls[0]? = some z := ⟨_, List.getElem?_eq_getElem (by omega)⟩
  rw [hg, hz] at h4
  exact ⟨g, z, hg, hz, h3, h1, h2, h4⟩
theorem fit_list {d : Nat} {f : Fld} {x : Vl} (hn : x.nu = false) (hk : f.k = 15 ∨ f.k = 16 ∨ f.k = 17) (h : fitD (d + 1) f x = true) : (f.k = 16 → (x.ls.length : Int) = f.wd) ∧ (f.k = 17 → x.ls.length = f.sub.length) ∧ x.num = 0 ∧ x.tx = [] ∧ ∀ i z, x.ls[i]? = some z → ∃ g, f.sub[childN f i]? = some g ∧ fitD d g z = true := by
  rw [fitD, if_neg (by simp [hn]), if_neg (by omega), if_neg (by omega), if_pos hk] at h
  simp only [Bool.and_eq_true, decide_eq_true_eq, List.all_eq_true] at h
  obtain ⟨_, h0, h1, h2, h3, h4⟩ := h
  refine ⟨h2, h3, h0, h1, fun i z hz => ?_⟩
  have h5 := h4 i (List.mem_range.2 (List.getElem?_eq_some_iff.1 hz).1)
  rw [hz] at h5
  rcases hg : f.sub[childN f i]? with _ | g
  · rw [hg] at h5; simp at h5
  · rw [hg] at h5
    exact ⟨g, rfl, h5⟩
end Go.Proofs.YtilejcofleeeiaaGreatDoor
