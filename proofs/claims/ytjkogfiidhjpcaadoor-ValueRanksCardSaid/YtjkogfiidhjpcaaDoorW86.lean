/- YtjkogfiidhjpcaaDoor: walks, part 86: the items of a list; does a value fit a field. -/
import Derived.Test.YtjkogfiidhjpcaaDoorW85
namespace Go.Proofs.YtjkogfiidhjpcaaDoor
open Go Go.K
set_option maxRecDepth 100000
set_option linter.unusedVariables false
set_option linter.unusedSimpArgs false
set_option maxHeartbeats 2000000
/-- The first so many items fit. -/
def itemsN (d : Nat) (f : Fld) (l : List Vl) (i : Nat) : Bool := (List.range i).all fun j => match f.sub[childN f j]?, l[j]? with | some g, some x => fitD d g x | _, _ => false
theorem itemsD_eq (d : Nat) (f : Fld) (l : List Vl) : itemsD d f l = (decide (f.k = 16 → (l.length : Int) = f.wd) && (decide (f.k = 17 → l.length = f.sub.length) && itemsN d f l l.length)) := rfl
theorem itemsN_succ {d : Nat} {f g : Fld} {l : List Vl} {i : Nat} {x : Vl} (hg : f.sub[childN f i]? = some g) (hx : l[i]? = some x) : itemsN d f l (i + 1) = (itemsN d f l i && fitD d g x) := by
  unfold itemsN
  rw [List.range_succ, List.all_append]
  simp [hg, hx]
theorem itemsN_no {d : Nat} {f : Fld} {l : List Vl} {i n : Nat} (hin : i ≤ n) (h : itemsN d f l i = false) : itemsN d f l n = false := by
  induction hin with
  | refl => exact h
  | step _ ih =>
    unfold itemsN at *
    rw [List.range_succ, List.all_append, ih, Bool.false_and]
structure ItI (w0 : World) (bx b4 : Nat) (z : Int) (R : Own) (d : Nat) (f : Fld) (v : Vl) (a va : Option Addr) (c vc : Nat) (i : Nat) (wb : World) (e : Env) (ds : List Deferred) (L : Own) : Prop where
  hw : wb = w0
  hds : ds = []
  o : L = (b4, Obj.cells #[i64 f.k, i64 f.wd, i64 f.id, i64 f.ix, .slice a f.sub.length c] 24 (0, 0)) :: fitO bx (z - wL (v.ls.take i)) :: R
  hi : i ≤ v.ls.length
  hn : itemsN d f v.ls i = true
  hz : wL (v.ls.take i) ≤ z
  h0 : e 0 = .pointer (some ⟨bx, 0, none⟩)
  h4 : e 4 = .pointer (some ⟨b4, 0, none⟩)
  h33 : e 33 = .slice va v.ls.length vc
  h34 : e 34 = i64 v.ls.length
  h35 : e 35 = i64 i
theorem perm3 {α : Type} (a b x : α) (R : List α) : (a :: b :: x :: R).Perm (x :: a :: b :: R) := List.perm_middle (l₁ := [a, b])
theorem items_ok (d : Nat) (hF : FitsOK d) : ItemsOK d := by
  intro wb w lo bx z R f v a va c vc hTb hlo hok hk hA hV hz0 hz hR h4096 hw
  refine enterB (args := [.pointer (some ⟨bx, 0, none⟩), .agg #[i64 f.k, i64 f.wd, i64 f.id, i64 f.ix, .slice a f.sub.length c], .slice va v.ls.length vc]) Tryd.func67 rfl Tryd.ntmps67 (congrArg Array.toList Tryd.results67) (by kernel_rfl) (by simp) hw ?_
  obtain ⟨hsh, hsub⟩ := (show shapedF f ∧ ∀ g ∈ f.sub, okD d g from hok)
  simp (disch := omega) only [push_cast, Nat.reduceEqDiff]
  refine newI (fun b4 hb4 hn4 => ?_)
  simp (disch := omega) only [push_cast, Nat.reduceEqDiff]
  have hL1 : ∀ x : Obj, ∀ p ∈ [(b4, x)], wb.heap.size ≤ p.1 := fun x p hp => by rw [List.mem_singleton.1 hp]; exact hb4
  have hL2 : ∀ (x : Obj) (z : Int), ∀ p ∈ (b4, x) :: fitO bx z :: R, wb.heap.size ≤ p.1 := fun x z9 p hp => by
    simp only [List.mem_cons] at hp
    rcases hp with rfl | rfl | hp
    · exact hb4
    · exact hR (fitO bx z) (.head _)
    · exact hR p (.tail _ hp)
  refine ldOne Shp.eq mem0 rfl ?_
  simp (disch := omega) only [push_cast, Nat.reduceEqDiff]
  have hwl : ∀ i, i ≤ v.ls.length → (wL (v.ls.take i) : Int) ≤ wL v.ls := fun i hi => by have := wL_take_le v.ls i; omega
  refine guardX_t rfl (fun h16 => ?_) (fun h16 => ?_)
  rotate_left
  focus
    simp (disch := omega) only [push_cast, Nat.reduceEqDiff]
    refine ldOne Shp.eq mem0 rfl ?_
    simp (disch := omega) only [push_cast, Nat.reduceEqDiff]
    refine guardX_t rfl (fun h17 => ?_) (fun h17 => ?_)
    focus
      simp (disch := omega) only [push_cast, Nat.reduceEqDiff]
      refine ldOne Shp.eq mem0 rfl ?_
      simp (disch := omega) only [push_cast, Nat.reduceEqDiff]
      rw [V_cond]
      simp (disch := omega) only [push_cast, Nat.reduceEqDiff]
      refine condX_d (fun hn => ?_) (fun hn => ?_)
      · simp (disch := omega) only [push_cast, Nat.reduceEqDiff]
        have hfd : itemsD d f v.ls = false := by unfold itemsD; simp [h17]; intros; omega
        rw [hfd]
        exact fin_fit (A := [_]) (hL1 _) (by simp) rfl
      have hi16 : f.k = 16 → (v.ls.length : Int) = f.wd := fun h => absurd h (by omega)
      have hi17 : f.k = 17 → v.ls.length = f.sub.length := fun h => by omega
      clear hn
    rotate_left
    focus
      have hi16 : f.k = 16 → (v.ls.length : Int) = f.wd := fun h => absurd h (by omega)
      have hi17 : f.k = 17 → v.ls.length = f.sub.length := fun h => absurd h (by omega)
      simp (disch := omega) only [push_cast, Nat.reduceEqDiff]
      rw [V_cond]
    all_goals simp (disch := omega) only [push_cast, Nat.reduceEqDiff]
    all_goals clear h17
  rotate_left
  rotate_left
  focus
    simp (disch := omega) only [push_cast, Nat.reduceEqDiff]
    refine ldOne Shp.eq mem0 rfl ?_
    simp (disch := omega) only [push_cast, Nat.reduceEqDiff]
    refine guardX_f rfl (fun hw16 => ?_) (fun hw16 => ?_)
    rotate_left
    · simp (disch := omega) only [push_cast, Nat.reduceEqDiff]
      rw [V_cond]
      simp (disch := omega) only [push_cast, Nat.reduceEqDiff]
      have hfd : itemsD d f v.ls = false := by unfold itemsD; simp [h16]; intros; omega
      rw [hfd]
      exact fin_fit (A := [_]) (hL1 _) (by simp) rfl
    simp (disch := omega) only [push_cast, Nat.reduceEqDiff]
    refine ldOne Shp.eq mem0 rfl ?_
    simp (disch := omega) only [push_cast, Nat.reduceEqDiff]
    refine guardX_t rfl (fun h17 => absurd h17 (by omega)) (fun h17 => ?_)
    simp (disch := omega) only [push_cast, Nat.reduceEqDiff]
    have hi16 : f.k = 16 → (v.ls.length : Int) = f.wd := fun _ => by omega
    have hi17 : f.k = 17 → v.ls.length = f.sub.length := fun h => absurd h (by omega)
    rw [V_cond]
    simp (disch := omega) only [push_cast, Nat.reduceEqDiff]
    clear hw16 h17
  all_goals
    clear h16
    refine forget (fun e => e 0 = .pointer (some ⟨bx, 0, none⟩) ∧ e 4 = .pointer (some ⟨b4, 0, none⟩) ∧ e 33 = .slice va v.ls.length vc ∧ e 34 = i64 v.ls.length ∧ e 35 = i64 0) ⟨rfl, rfl, rfl, rfl, rfl⟩ ?_
    rintro e ⟨h0, h4, h33, h34, h35⟩
    rw [V_block]
    simp (disch := omega) only [push_cast, Nat.reduceEqDiff, h0, h4, h33, h34, h35]
    refine loopW (G := Nat) (ItI wb bx b4 z R d f v a va c vc) (fun i => v.ls.length - i) 0 _ (fun w hw => hw) (by kernel_rfl) ⟨rfl, rfl, by simp [wL], by omega, rfl, by simp [wL]; omega, h0, h4, h33, h34, by simpa using h35⟩ ?_
    clear h0 h4 h33 h34 h35 e
    rintro i wb e ds L ⟨rfl, rfl, rfl, hi, hn, hz', h0, h4, h33, h34, h35⟩
    simp (disch := omega) only [push_cast, Nat.reduceEqDiff, h0, h4, h33, h34, h35]
    rw [V_cond]
    simp (disch := omega) only [push_cast, Nat.reduceEqDiff, h0, h4, h33, h34, h35]
    refine condX_d (fun hlt => ?_) (fun hge => ?_)
    rotate_left
    · obtain rfl : i = v.ls.length := by omega
      simp (disch := omega) only [push_cast, Nat.reduceEqDiff, h0, h4, h33, h34, h35]
      have hfd : itemsD d f v.ls = true := by
        rw [itemsD_eq, decide_eq_true hi16, decide_eq_true hi17, hn]
        rfl
      rw [List.take_length] at hz'
      rw [List.take_length]
      exact fin_fit (A := [_]) (hL1 _) (by intro _; rfl) (by rw [hfd, decide_eq_true hz']; rfl)
    have hli : i < v.ls.length := by omega
    obtain ⟨x, hx⟩ : ∃ x, v.ls[i]? = some x := ⟨_, List.getElem?_eq_getElem hli⟩
    obtain ⟨g, hg⟩ : ∃ g, f.sub[childN f i]? = some g := by
      refine ⟨_, List.getElem?_eq_getElem ?_⟩
      unfold childN
      by_cases h17 : f.k = 17
      · rw [if_pos h17, ← hi17 h17]; exact hli
      · rw [if_neg h17]
        have h1 := hsh.2.2.2
        rcases hk with hk | hk | hk
        · rw [hk] at h1; simp [leastK, mostK] at h1; omega
        · rw [hk] at h1; simp [leastK, mostK] at h1; omega
        · exact absurd hk h17
    have hg' := hg
    have hpos : childN f i < f.sub.length := (List.getElem?_eq_some_iff.1 hg).1
    obtain ⟨gb, goff, ga, gc, rfl, g1, g2, g3⟩ := hA.get hg
    obtain ⟨xb, xoff, xa, xc, rfl, x1, x2, x3⟩ := hV.get hx
    have hfx := wL_take hx
    simp (disch := omega) only [push_cast, Nat.reduceEqDiff, h0, h4, h33, h34, h35]
    rw [V_block]
    simp (disch := omega) only [push_cast, Nat.reduceEqDiff, h0, h4, h33, h34, h35]
    refine ldAggF Shp.eq x2 rfl (out_of (fun p hp => Nat.lt_of_lt_of_le (Nat.lt_of_lt_of_le x1 hlo) (hL2 _ _ p hp))) ?_
    simp (disch := omega) only [push_cast, Nat.reduceEqDiff, h0, h4, h33, h34, h35, Vl.cells]
    refine newI (fun b8 hb8 hn8 => ?_)
    simp (disch := omega) only [push_cast, Nat.reduceEqDiff, h0, h4, h33, h34, h35]
    refine storeX 0 rfl Siz.eq rfl rfl (by simp [Value.oneCell']) (by simp) ?_
    simp (disch := omega) only [push_cast, Nat.reduceEqDiff, h0, h4, h33, h34, h35]
    refine ldOne Shp.eq mem1 rfl ?_
    simp (disch := omega) only [push_cast, Nat.reduceEqDiff, h0, h4, h33, h34, h35]
    rw [V_cond]
    simp (disch := omega) only [push_cast, Nat.reduceEqDiff, h0, h4, h33, h34, h35]
    have hL3 : ∀ (x y : Obj) (z : Int), ∀ p ∈ (b8, x) :: (b4, y) :: fitO bx z :: R, wb.heap.size ≤ p.1 := fun x y z9 p hp => by
      rcases List.mem_cons.1 hp with rfl | hp
      · exact hb8
      · exact hL2 _ _ p hp
    have hR2 : ∀ (z : Int) (x y : Obj), ∀ p ∈ fitO bx z :: (b8, x) :: (b4, y) :: R, wb.heap.size ≤ p.1 := fun z9 x y p hp => by
      simp only [List.mem_cons] at hp
      rcases hp with rfl | rfl | rfl | hp
      · exact hR (fitO bx z) (.head _)
      · exact hb8
      · exact hb4
      · exact hR p (.tail _ hp)
    have hL9 : ∀ x y : Obj, ∀ p ∈ [(b8, x), (b4, y)], wb.heap.size ≤ p.1 := fun x y p hp => by
      simp only [List.mem_cons, List.mem_nil_iff, or_false] at hp
      rcases hp with rfl | rfl
      · exact hb8
      · exact hb4
    have hL8 : ∀ x : Obj, ∀ p ∈ [(b8, x)], wb.heap.size ≤ p.1 := fun x p hp => by rw [List.mem_singleton.1 hp]; exact hb8
    refine condX_d (fun h17 => ?_) (fun h17 => ?_)
    focus
      have hch : childN f i = i := if_pos (by omega)
      rw [hch] at g2 hpos hg'
    rotate_left
    focus
      have hch : childN f i = 0 := if_neg (by omega)
      rw [hch] at g2 hpos hg'
      rw [Nat.zero_mul, Nat.add_zero] at g2
    all_goals
      simp (disch := omega) only [push_cast, Nat.reduceEqDiff, h0, h4, h33, h34, h35]
      refine drawTT 7 (by kernel_rfl) (by kernel_rfl) mixed (by kernel_rfl) rfl rfl ?_
      simp (disch := omega) only [push_cast, Nat.reduceEqDiff, h0, h4, h33, h34, h35]
      refine ldOne Shp.eq mem1 rfl ?_
      simp (disch := omega) only [push_cast, Nat.reduceEqDiff, h0, h4, h33, h34, h35]
      refine ldAggF Shp.eq g2 rfl (out_of (fun p hp => Nat.lt_of_lt_of_le (Nat.lt_of_lt_of_le g1 hlo) (hL3 _ _ _ p hp))) ?_
      simp (disch := omega) only [push_cast, Nat.reduceEqDiff, h0, h4, h33, h34, h35, Fld.cells]
      refine loadX_agg Shp.eq mem0 rfl rfl ?_
      simp (disch := omega) only [push_cast, Nat.reduceEqDiff, h0, h4, h33, h34, h35]
      refine callV en_46 (callX_base (fun w' hw' => hF wb w' lo bx (z - wL (v.ls.take i)) _ g x ga xa gc xc hTb hlo (hsub g (List.mem_of_getElem? hg)) g3 x3 (by omega) (by omega) (hR2 _ _ _) (hw'.perm (perm3 _ _ _ R))) ?_)
      rintro e' w' ⟨rfl, z', hz'', hs⟩
      refine ⟨_, _, rfl, hs, ?_⟩
      simp (disch := omega) only [push_cast, Nat.reduceEqDiff, h0, h4, h33, h34, h35]
      rw [V_cond]
      simp (disch := omega) only [push_cast, Nat.reduceEqDiff, h0, h4, h33, h34, h35]
      refine condX_b (fun hb => ?_) (fun hb => ?_)
      · simp (disch := omega) only [push_cast, Nat.reduceEqDiff, h0, h4, h33, h34, h35]
        have hres : (itemsD d f v.ls && decide ((wL v.ls : Int) ≤ z)) = false := by
          rw [Bool.not_eq_true'] at hb
          rcases Bool.and_eq_false_iff.1 hb with hb | hb
          · have h2 := itemsN_no (n := v.ls.length) (by omega) (show itemsN d f v.ls (i + 1) = false by rw [itemsN_succ (by rw [hch]; exact hg') hx, hb, Bool.and_false])
            rw [itemsD_eq, h2]; simp
          · have h2 := hwl (i + 1) (by omega)
            have h3 := of_decide_eq_false hb
            rw [decide_eq_false (by omega), Bool.and_false]
        exact fin_fit2 (A := [_, _]) (hL9 _ _) (by rw [hres]; simp) (by rw [hres])
      · rw [Bool.not_eq_false'] at hb
        simp (disch := omega) only [push_cast, Nat.reduceEqDiff, h0, h4, h33, h34, h35]
        have h3 := hz'' hb
        rw [Bool.and_eq_true] at hb
        have h4' := of_decide_eq_true hb.2
        refine ⟨i + 1, _, fun w hw => ((hw.mid [fitO bx z'] [_] (hL8 _))).perm (List.Perm.swap _ _ _), ⟨rfl, rfl, by rw [show z' = z - wL (v.ls.take (i + 1)) by omega], by omega, by rw [itemsN_succ (by rw [hch]; exact hg') hx, hn, hb.1]; rfl, by omega, h0, h4, h33, h34, by simp only [upd]; rfl⟩, by omega⟩
theorem fits_all : ∀ d, FitsOK d
  | 0 => fun wb w lo bx z R f v a va c vc hTb hlo hok => absurd hok (by simp [okD])
  | d + 1 => fits_step d (fits_all d) (items_ok d (fits_all d))
end Go.Proofs.YtjkogfiidhjpcaaDoor
