/- YtgbafmjgfbgeoaaDoor: walks, part 62: where a way leads: the program's and the reference's. -/
import Derived.Test.YtgbafmjgfbgeoaaDoorW8
import Derived.Test.YtgbafmjgfbgeoaaDoorW61
import Derived.Test.YtgbafmjgfbgeoaaDoorW60
import Derived.Test.YtgbafmjgfbgeoaaDoorW23
import Derived.Test.YtgbafmjgfbgeoaaDoorW25
namespace Go.Proofs.YtgbafmjgfbgeoaaDoor
open Go Go.K
set_option maxRecDepth 100000
set_option linter.unusedVariables false
set_option linter.unusedSimpArgs false
set_option maxHeartbeats 1000000
abbrev f0 : Fld := .mk [] false 0 0 0 0 []
abbrev rT (l : List Fld) : Fld := .mk [] false 0 0 0 0 l
/-- Where a way leads from a field on. -/
def goP : Fld → List Int → Option Fld
  | f, [] => some f
  | f, i :: r => if 0 ≤ i ∧ i < f.sub.length then match f.sub[i.toNat]? with
      | some g => goP g r
      | none => none
    else none
theorem goP_append : ∀ (p : List Int) (f : Fld) (q : List Int), goP f (p ++ q) = (goP f p).bind fun g => goP g q
  | [], f, q => rfl
  | i :: p, f, q => by
    rw [List.cons_append, goP, goP]
    split
    · cases f.sub[i.toNat]? with
      | none => rfl
      | some g => exact goP_append p g q
    · rfl
def atP (l : List Fld) (nt : List NoteT) (p : List Int) : Fld × Int := if mayP l nt = false then (f0, 5) else if p = [] then (f0, 1) else match goP (rT l) p with
  | some f => (f, 0)
  | none => (f0, 2)
theorem take_go {f : Fld} {p : List Int} {i : Nat} {k : Int} {g : Fld} (hk : p[i]? = some k) (hg : goP f (p.take i) = some g) : goP f (p.take (i + 1)) = goP g [k] := by
  rw [List.take_add_one, hk, Option.toList_some, goP_append, hg]
  rfl
theorem go_none {f : Fld} {p : List Int} {i : Nat} (h : goP f (p.take i) = none) : goP f p = none := by
  rw [← List.take_append_drop i p, goP_append, h]
  rfl
theorem okS_go : ∀ (p : List Int) (f g : Fld), okS f = true → goP f p = some g → okS g = true
  | [], f, g, h, hg => by cases hg; exact h
  | i :: p, f, g, h, hg => by
    rw [goP] at hg
    split at hg
    · cases hs : f.sub[i.toNat]? with
      | none => rw [hs] at hg; cases hg
      | some x =>
        rw [hs] at hg
        exact okS_go p x g (okT_get ((okS_iff f).1 h).2 hs) hg
    · cases hg
structure AtI (w0 : World) (lo b2 b4 b6 : Nat) (a : Option Addr) (l : List Fld) (c : Nat) (na : Option Addr) (nt : List NoteT) (nc : Nat) (pa : Option Addr) (p : List Int) (pc : Nat) (i : Nat) (wb : World) (e : Env) (ds : List Deferred) (L : Own) : Prop where
  hw : wb = w0
  hds : ds = []
  o : ∃ g ga gc, L = [(b6, Obj.cells #[str g.nm, .bool g.nl, i64 g.k, i64 g.wd, i64 g.id, i64 g.ix, .slice ga g.sub.length gc] 38 (0, 0)), (b4, Obj.cells #[str [], .bool false, i64 0, i64 0, i64 0, i64 0, .slice none 0 0] 38 (0, 0)), (b2, Obj.cells #[.slice a l.length c, .slice na nt.length nc] 25 (0, 0))] ∧ goP (rT l) (p.take i) = some g ∧ Rd w0 lo ga g.sub ∧ g.sub.length ≤ gc ∧ gc ≤ 9223372036854775807 ∧ g.nm.length ≤ 9223372036854775807
  il : i ≤ p.length
  h4 : e 4 = .pointer (some ⟨b4, 0, none⟩)
  h6 : e 6 = .pointer (some ⟨b6, 0, none⟩)
  h23 : e 23 = .slice pa p.length pc
  h24 : e 24 = i64 p.length
  h25 : e 25 = i64 i
def AtS (r : Fld × Int) (v : Value) (M : Own) : Prop := ∃ a c, v = .tuple #[fldV r.1 a c, i64 r.2] ∧ r.1.sub.length ≤ c ∧ c ≤ 9223372036854775807 ∧ ∀ w, Held w M → Rd w w.heap.size a r.1.sub
theorem at_walk (w : World) (hs : SaysAt w) (lo : Nat) (hlo : lo ≤ w.heap.size) (a : Option Addr) (l : List Fld) (c : Nat) (na : Option Addr) (nt : List NoteT) (nc : Nat) (hsc : SchAt w lo a l c na nt nc) (pa : Option Addr) (p : List Int) (pc : Nat) (hp : IntsAt w pa p) (hpl : p.length ≤ 9223372036854775807) :
    Calls Tryd.prog 15 #[schV a l c na nt nc, .slice pa p.length pc] w (RetsN w (AtS (atP l nt p))) := by
  refine enterB (args := [schV a l c na nt nc, .slice pa p.length pc]) Tryd.func15 rfl Tryd.ntmps15 (congrArg Array.toList Tryd.results15) (by kernel_rfl) (by simp) (Sy.refl w) ?_
  simp (disch := omega) only [push_cast, Nat.reduceEqDiff, schV]
  refine newI (fun b2 hb2 hn2 => ?_)
  simp (disch := omega) only [push_cast, Nat.reduceEqDiff]
  refine newI (fun b4 hb4 hn4 => ?_)
  simp (disch := omega) only [push_cast, Nat.reduceEqDiff]
  have hL : ∀ p ∈ [(b4, Obj.cells #[str [], .bool false, i64 0, i64 0, i64 0, i64 0, .slice none 0 0] 38 (0, 0)), (b2, Obj.cells #[.slice a l.length c, .slice na nt.length nc] 25 (0, 0))], w.heap.size ≤ p.1 := fun p hp => by
    simp only [List.mem_cons, List.mem_nil_iff, or_false] at hp
    rcases hp with rfl | rfl <;> assumption
  have k1 := fun w' (L' : Own) (hL' : ∀ p ∈ L', w.heap.size ≤ p.1) hw' => hsc.sy hlo (w' := w') (M := L') hw' (fun p hp => Nat.le_trans hlo (hL' p hp))
  have hl63 := Nat.le_trans hsc.hc hsc.hc2
  rw [V_block]
  simp (disch := omega) only [push_cast, Nat.reduceEqDiff]
  refine loadX_agg Shp.eq mem1 rfl rfl ?_
  simp (disch := omega) only [push_cast, Nat.reduceEqDiff]
  refine callV en_38 (callX_is (fun w' hw' => may_walk w' (hs.mono hw' hL) lo (Nat.le_trans hlo hw'.size) a l c na nt nc (k1 w' _ hL hw')) ?_)
  simp (disch := omega) only [push_cast, Nat.reduceEqDiff]
  rw [V_cond]
  simp (disch := omega) only [push_cast, Nat.reduceEqDiff]
  refine condX_b (fun hm => ?_) (fun hm => ?_)
  · have hm' : mayP l nt = false := by simpa using hm
    simp (disch := omega) only [push_cast, Nat.reduceEqDiff]
    refine storeX 0 rfl Siz.eq rfl rfl (by simp [Value.oneCell']) (by simp) ?_
    simp (disch := omega) only [push_cast, Nat.reduceEqDiff]
    refine loadX_agg Shp.eq mem0 rfl rfl ?_
    simp (disch := omega) only [push_cast, Nat.reduceEqDiff]
    have hr : atP l nt p = (f0, 5) := by unfold atP; rw [if_pos hm']
    rw [hr]
    exact fun w' hw' => ⟨_, [], rfl, hw'.end hL, by simp, none, 0, rfl, by simp [Fld.sub], by omega, fun w _ => .nil _⟩
  have hm' : mayP l nt = true := by simpa using hm
  simp (disch := omega) only [push_cast, Nat.reduceEqDiff]
  rw [V_cond]
  simp (disch := omega) only [push_cast, Nat.reduceEqDiff]
  refine condX_d (fun hp0 => ?_) (fun hp0 => ?_)
  · simp (disch := omega) only [push_cast, Nat.reduceEqDiff]
    refine storeX 0 rfl Siz.eq rfl rfl (by simp [Value.oneCell']) (by simp) ?_
    simp (disch := omega) only [push_cast, Nat.reduceEqDiff]
    refine loadX_agg Shp.eq mem0 rfl rfl ?_
    simp (disch := omega) only [push_cast, Nat.reduceEqDiff]
    have hr : atP l nt p = (f0, 1) := by unfold atP; rw [if_neg (by rw [hm']; simp), if_pos (List.eq_nil_of_length_eq_zero (by omega))]
    rw [hr]
    exact fun w' hw' => ⟨_, [], rfl, hw'.end hL, by simp, none, 0, rfl, by simp [Fld.sub], by omega, fun w _ => .nil _⟩
  have hpn : p ≠ [] := fun h => hp0 (by rw [h]; rfl)
  have hat : atP l nt p = match goP (rT l) p with
      | some f => (f, 0)
      | none => (f0, 2) := by unfold atP; rw [if_neg (by rw [hm']; simp), if_neg hpn]
  simp (disch := omega) only [push_cast, Nat.reduceEqDiff]
  refine ldOne Shp.eq mem1 rfl ?_
  simp (disch := omega) only [push_cast, Nat.reduceEqDiff]
  refine newI (fun b6 hb6 hn6 => ?_)
  simp (disch := omega) only [push_cast, Nat.reduceEqDiff]
  refine storeX 0 rfl Siz.eq rfl rfl (by simp [Value.oneCell']) (by simp) ?_
  simp (disch := omega) only [push_cast, Nat.reduceEqDiff]
  rw [V_block]
  simp (disch := omega) only [push_cast, Nat.reduceEqDiff]
  refine loopW (G := Nat) (AtI w lo b2 b4 b6 a l c na nt nc pa p pc) (fun i => p.length - i) 0 _ (fun w hw => hw) (by kernel_rfl) ⟨rfl, rfl, ⟨rT l, a, c, rfl, rfl, hsc.hr, hsc.hc, hsc.hc2, by simp [Fld.nm]⟩, by omega, rfl, rfl, rfl, rfl, rfl⟩ ?_
  rintro i wb e ds L ⟨rfl, rfl, ⟨g, ga, gc, rfl, hgo, hgr, hgc, hgc2, hgn⟩, hil, h4, h6, h23, h24, h25⟩
  have hL6 : ∀ x : Obj, ∀ q ∈ ((b6, x) :: [(b4, Obj.cells #[str [], .bool false, i64 0, i64 0, i64 0, i64 0, .slice none 0 0] 38 (0, 0)), (b2, Obj.cells #[.slice a l.length c, .slice na nt.length nc] 25 (0, 0))]), wb.heap.size ≤ q.1 := fun x q hq => by
    rcases List.mem_cons.1 hq with rfl | hq
    · exact hb6
    · exact hL q hq
  simp (disch := omega) only [push_cast, Nat.reduceEqDiff, h4, h6, h23, h24, h25]
  rw [V_cond]
  simp (disch := omega) only [push_cast, Nat.reduceEqDiff, h4, h6, h23, h24, h25]
  refine condX_d (fun hlt => ?_) (fun hge => ?_)
  · obtain ⟨k, hk⟩ : ∃ k, p[i]? = some k := ⟨_, List.getElem?_eq_getElem (by omega)⟩
    rcases hp with rfl | ⟨pb, poff, rfl, hpa⟩
    · simp at hk
    simp (disch := omega) only [push_cast, Nat.reduceEqDiff, h4, h6, h23, h24, h25]
    rw [V_block]
    simp (disch := omega) only [push_cast, Nat.reduceEqDiff, h4, h6, h23, h24, h25]
    refine ldF Shp.eq (by simpa using hpa i k hk) (out_of (fun q hq => Nat.lt_of_lt_of_le (hpa i k hk).lt (hL6 _ q hq))) ?_
    simp (disch := omega) only [push_cast, Nat.reduceEqDiff, h4, h6, h23, h24, h25]
    have hbad : ¬ (0 ≤ k ∧ k < g.sub.length) → atP l nt p = (f0, 2) := fun hb => by
      have : goP (rT l) p = none := go_none (i := i + 1) (by rw [take_go hk hgo, goP, if_neg hb])
      rw [hat, this]
    refine guardX_f rfl (fun hk0 => ?_) (fun hk0 => ?_)
    rotate_left
    · simp (disch := omega) only [push_cast, Nat.reduceEqDiff, h4, h6, h23, h24, h25]
      rw [V_cond]
      simp (disch := omega) only [push_cast, Nat.reduceEqDiff, h4, h6, h23, h24, h25]
      refine storeX 1 rfl Siz.eq rfl rfl (by simp [Value.oneCell']) (by simp) ?_
      simp (disch := omega) only [push_cast, Nat.reduceEqDiff, h4, h6, h23, h24, h25]
      refine loadX_agg Shp.eq mem1 rfl rfl ?_
      simp (disch := omega) only [push_cast, Nat.reduceEqDiff, h4, h6, h23, h24, h25]
      rw [hbad (by omega)]
      exact fun w' hw' => ⟨_, [], rfl, hw'.end (hL6 _), by simp, none, 0, rfl, by simp [Fld.sub], by omega, fun w _ => .nil _⟩
    simp (disch := omega) only [push_cast, Nat.reduceEqDiff, h4, h6, h23, h24, h25]
    refine ldOne Shp.eq mem0 rfl ?_
    simp (disch := omega) only [push_cast, Nat.reduceEqDiff, h4, h6, h23, h24, h25]
    rw [V_cond]
    simp (disch := omega) only [push_cast, Nat.reduceEqDiff, h4, h6, h23, h24, h25]
    refine condX_d (fun hkl => ?_) (fun hkl => ?_)
    · simp (disch := omega) only [push_cast, Nat.reduceEqDiff, h4, h6, h23, h24, h25]
      refine storeX 1 rfl Siz.eq rfl rfl (by simp [Value.oneCell']) (by simp) ?_
      simp (disch := omega) only [push_cast, Nat.reduceEqDiff, h4, h6, h23, h24, h25]
      refine loadX_agg Shp.eq mem1 rfl rfl ?_
      simp (disch := omega) only [push_cast, Nat.reduceEqDiff, h4, h6, h23, h24, h25]
      rw [hbad (by omega)]
      exact fun w' hw' => ⟨_, [], rfl, hw'.end (hL6 _), by simp, none, 0, rfl, by simp [Fld.sub], by omega, fun w _ => .nil _⟩
    obtain ⟨j, rfl⟩ : ∃ j : Nat, k = j := ⟨k.toNat, by omega⟩
    obtain ⟨f, hf⟩ : ∃ f, g.sub[j]? = some f := ⟨_, List.getElem?_eq_getElem (by omega)⟩
    obtain ⟨b, off, rfl, hb⟩ : ∃ b off, ga = some ⟨b, off, none⟩ ∧ b < lo := by
      cases hs : g.sub with
      | nil => rw [hs] at hf; simp at hf
      | cons x y => rw [hs] at hgr; exact hgr.some_of
    obtain ⟨fa, fc, x1, x2, x3, x4, x5, x6⟩ := hgr.get j hf
    simp (disch := omega) only [push_cast, Nat.reduceEqDiff, h4, h6, h23, h24, h25]
    refine ldOne Shp.eq mem0 rfl ?_
    simp (disch := omega) only [push_cast, Nat.reduceEqDiff, h4, h6, h23, h24, h25, Int.toNat_natCast]
    refine ldAggF Shp.eq x2 rfl (out_of (fun q hq => Nat.lt_of_lt_of_le (Nat.lt_of_lt_of_le x1 hlo) (hL6 _ q hq))) ?_
    simp (disch := omega) only [push_cast, Nat.reduceEqDiff, h4, h6, h23, h24, h25, Fld.cells]
    refine storeX 0 rfl Siz.eq rfl rfl (by simp [Value.oneCell']) (by simp) ?_
    simp (disch := omega) only [push_cast, Nat.reduceEqDiff, h4, h6, h23, h24, h25]
    refine ⟨i + 1, _, fun w hw => hw, ⟨rfl, rfl, ⟨f, fa, fc, rfl, ?_, x6, x3, x5, x4⟩, by omega, h4, h6, h23, h24, by simp only [upd]; rfl⟩, by omega⟩
    rw [take_go hk hgo, goP, if_pos ⟨by omega, by omega⟩, Int.toNat_natCast, hf]
    rfl
  · obtain rfl : i = p.length := by omega
    rw [List.take_length] at hgo
    have hr : atP l nt p = (g, 0) := by rw [hat, hgo]
    simp (disch := omega) only [push_cast, Nat.reduceEqDiff, h4, h6, h23, h24, h25]
    refine loadX_agg Shp.eq mem0 rfl rfl ?_
    simp (disch := omega) only [push_cast, Nat.reduceEqDiff, h4, h6, h23, h24, h25]
    refine bs_22_1 (newI fun b9 hb9 hn9 => ?_)
    simp (disch := omega) only [push_cast, Nat.reduceEqDiff, h4, h6, h23, h24, h25]
    have hL9 : ∀ q ∈ [(b9, Obj.cells #[str g.nm, .bool g.nl, i64 g.k, i64 g.wd, i64 g.id, i64 g.ix, .slice ga g.sub.length gc] 38 (0, 0)), (b6, Obj.cells #[str g.nm, .bool g.nl, i64 g.k, i64 g.wd, i64 g.id, i64 g.ix, .slice ga g.sub.length gc] 38 (0, 0)), (b4, Obj.cells #[str [], .bool false, i64 0, i64 0, i64 0, i64 0, .slice none 0 0] 38 (0, 0)), (b2, Obj.cells #[.slice a l.length c, .slice na nt.length nc] 25 (0, 0))], wb.heap.size ≤ q.1 := fun q hq => by
      rcases List.mem_cons.1 hq with rfl | hq
      · exact hb9
      · exact hL6 _ q hq
    obtain ⟨sm1, sm2⟩ := small_may hm'
    have hokg : okS g = true := okS_go p (rT l) g ((okS_iff _).2 ⟨sm2, sm1⟩) hgo
    refine callV en_39 (callX_new (S := fun v M => CopyS v M [g]) (fun w' hw' => copied_walk w' w'.heap.size [g] (some ⟨b9, 0, none⟩) 1 (Nat.le_refl _) (.cons (hw'.lt (.head _)) hgc hgn hgc2 (At.of_own hw' (.head _) rfl) ((hgr.sy hlo hw' (fun q hq => Nat.le_trans hlo (hL9 q hq))).weaken (Nat.le_trans hlo hw'.size)) (.nil _)) (by simp) (by omega) (by simp) (by simp only [okT, hokg, Bool.and_self])) (fun v M hM hMn hS => ?_))
    obtain ⟨a2, c2, xs2, rfl, z1, z2, z3, z4, z5⟩ := hS
    rcases z5 with z5 | ⟨b, cs, ty, rfl, hmb, htk⟩
    · cases z5
    obtain ⟨a3, c3, r3, hx3, y1, y2, y3, y4, y5⟩ := z3
    obtain rfl : r3 = [] := y5
    rw [List.append_nil] at hx3
    subst hx3
    simp (disch := omega) only [push_cast, Nat.reduceEqDiff, h4, h6, h23, h24, h25, List.length_singleton]
    refine loadX_agg Shp.eq (List.mem_append_left _ hmb) (by simpa using htk) rfl ?_
    simp (disch := omega) only [push_cast, Nat.reduceEqDiff, h4, h6, h23, h24, h25, Fld.cells]
    refine storeX_weak (L' := (b4, Obj.cells #[str [], .bool false, i64 0, i64 0, i64 0, i64 0, .slice none 0 0] 38 (0, 0)) :: (M ++ [(b9, Obj.cells #[str g.nm, .bool g.nl, i64 g.k, i64 g.wd, i64 g.id, i64 g.ix, .slice ga g.sub.length gc] 38 (0, 0)), (b6, Obj.cells #[str g.nm, .bool g.nl, i64 g.k, i64 g.wd, i64 g.id, i64 g.ix, .slice ga g.sub.length gc] 38 (0, 0)), (b2, Obj.cells #[.slice a l.length c, .slice na nt.length nc] 25 (0, 0))])) (fun w hw => hw.perm (by
      have := (List.perm_middle (l₁ := M ++ [(b9, Obj.cells #[str g.nm, .bool g.nl, i64 g.k, i64 g.wd, i64 g.id, i64 g.ix, .slice ga g.sub.length gc] 38 (0, 0)), (b6, Obj.cells #[str g.nm, .bool g.nl, i64 g.k, i64 g.wd, i64 g.id, i64 g.ix, .slice ga g.sub.length gc] 38 (0, 0))]) (a := ((b4, Obj.cells #[str [], .bool false, i64 0, i64 0, i64 0, i64 0, .slice none 0 0] 38 (0, 0)) : Nat × Obj)) (l₂ := [(b2, Obj.cells #[.slice a l.length c, .slice na nt.length nc] 25 (0, 0))]))
      simpa only [List.append_assoc, List.cons_append, List.nil_append] using this)) (storeX 0 rfl Siz.eq rfl rfl (by simp [Value.oneCell']) (by simp) ?_)
    simp (disch := omega) only [push_cast, Nat.reduceEqDiff, h4, h6, h23, h24, h25]
    refine loadX_agg Shp.eq mem0 rfl rfl ?_
    simp (disch := omega) only [push_cast, Nat.reduceEqDiff, h4, h6, h23, h24, h25]
    rw [hr]
    exact fun w' hw' => ⟨_, M, rfl, hw'.drop ((List.sublist_append_left M _).cons _) (fun q hq => .inr (by
      rcases List.mem_cons.1 hq with rfl | hq
      · exact hb4
      rcases List.mem_append.1 hq with hq | hq
      · exact hM q hq
      · refine hL9 q ?_
        simp only [List.mem_cons, List.mem_nil_iff, or_false] at hq ⊢
        rcases hq with rfl | rfl | rfl <;> simp)), hM, a3, c3, rfl, y1, y3, fun w hw => y4.toRd hw⟩
end Go.Proofs.YtgbafmjgfbgeoaaDoor
/- YtgbafmjgfbgeoaaDoor: walks, part 63: where a way leads: the reference's. -/
namespace Go.Proofs.YtgbafmjgfbgeoaaDoor
open Go Go.K
set_option maxRecDepth 100000
set_option linter.unusedVariables false
set_option linter.unusedSimpArgs false
set_option maxHeartbeats 1000000
structure AtRI (w0 : World) (lo b2 b4 b7 : Nat) (a : Option Addr) (l : List Fld) (c : Nat) (na : Option Addr) (nt : List NoteT) (nc : Nat) (L0 : Own) (pa : Option Addr) (p : List Int) (pc : Nat) (i : Nat) (wb : World) (e : Env) (ds : List Deferred) (L : Own) : Prop where
  hw : wb = w0
  hds : ds = []
  o : ∃ g ga gc bx, L = (b7, Obj.cells (List.toArray bx) 38 (0, 0)) :: (b4, Obj.cells #[str [], .bool false, i64 0, i64 0, i64 0, i64 0, .slice none 0 0] 38 (0, 0)) :: (b2, Obj.cells #[.slice a l.length c, .slice na nt.length nc] 25 (0, 0)) :: L0 ∧ List.length bx = 7 ∧ e 6 = .slice ga g.sub.length gc ∧ goP (rT l) (p.take i) = some g ∧ Rd w0 lo ga g.sub ∧ g.sub.length ≤ gc ∧ gc ≤ 9223372036854775807 ∧ (i = 0 ∨ bx = [str g.nm, .bool g.nl, i64 g.k, i64 g.wd, i64 g.id, i64 g.ix, .slice ga g.sub.length gc])
  il : i ≤ p.length
  h4 : e 4 = .pointer (some ⟨b4, 0, none⟩)
  h7 : e 7 = .pointer (some ⟨b7, 0, none⟩)
  h22 : e 22 = .slice pa p.length pc
  h23 : e 23 = i64 p.length
  h24 : e 24 = i64 i
def AtB (wb : World) (lo : Nat) (r : Fld × Int) (v : Value) : Prop := ∃ a c, v = .tuple #[fldV r.1 a c, i64 r.2] ∧ r.1.sub.length ≤ c ∧ c ≤ 9223372036854775807 ∧ Rd wb lo a r.1.sub
theorem atR_walk (wb w : World) (L : Own) (hw : Sy wb L w) (hLn : ∀ q ∈ L, wb.heap.size ≤ q.1) (lo : Nat) (hlo : lo ≤ wb.heap.size) (a : Option Addr) (l : List Fld) (c : Nat) (na : Option Addr) (nt : List NoteT) (nc : Nat) (hsc : SchAt wb lo a l c na nt nc) (pa : Option Addr) (p : List Int) (pc : Nat) (hp : IntsAt wb pa p) (hpl : p.length ≤ 9223372036854775807) :
    Calls Tryd.prog 16 #[schV a l c na nt nc, .slice pa p.length pc] w (fun e w' => ∃ v L', e = .returned v ∧ Sy wb L' w' ∧ (L' = L ∧ AtB wb lo (atP l nt p) v)) := by
  refine enterB (args := [schV a l c na nt nc, .slice pa p.length pc]) Tryd.func16 rfl Tryd.ntmps16 (congrArg Array.toList Tryd.results16) (by kernel_rfl) (by simp) hw ?_
  simp (disch := omega) only [push_cast, Nat.reduceEqDiff, schV]
  refine newI (fun b2 hb2 hn2 => ?_)
  simp (disch := omega) only [push_cast, Nat.reduceEqDiff]
  refine newI (fun b4 hb4 hn4 => ?_)
  simp (disch := omega) only [push_cast, Nat.reduceEqDiff]
  have hL : ∀ q ∈ (b4, Obj.cells #[str [], .bool false, i64 0, i64 0, i64 0, i64 0, .slice none 0 0] 38 (0, 0)) :: (b2, Obj.cells #[.slice a l.length c, .slice na nt.length nc] 25 (0, 0)) :: L, wb.heap.size ≤ q.1 := fun q hq => by
    simp only [List.mem_cons] at hq
    rcases hq with rfl | rfl | hq
    · exact hb4
    · exact hb2
    · exact hLn q hq
  have k1 := fun w' (L' : Own) (hL' : ∀ p ∈ L', wb.heap.size ≤ p.1) hw' => hsc.sy hlo (w' := w') (M := L') hw' (fun p hp => Nat.le_trans hlo (hL' p hp))
  have hl63 := Nat.le_trans hsc.hc hsc.hc2
  have hend : ∀ (x y : Obj) w', Sy wb ((b4, x) :: (b2, y) :: L) w' → Sy wb L w' := fun x y w' h => h.drop ((List.Sublist.refl L).cons _ |>.cons _) (fun q hq => .inr (by
    simp only [List.mem_cons] at hq
    rcases hq with rfl | rfl | hq
    · exact hb4
    · exact hb2
    · exact hLn q hq))
  refine loadX_agg Shp.eq mem1 rfl rfl ?_
  simp (disch := omega) only [push_cast, Nat.reduceEqDiff]
  refine callV en_35 (callX_ex (S := fun v => ∃ qa qc, v = .agg #[i64 (checkP l nt).1, .slice qa (checkP l nt).2.1.length qc, i64 (checkP l nt).2.2]) (fun w' hw' => (checkR_walk w' lo (Nat.le_trans hlo hw'.size) l a c (k1 w' _ hL hw').hr hsc.hc hsc.hc2 nt na nc (k1 w' _ hL hw').hn hsc.hnc hsc.hnc2).mono (fun e w'' ⟨v, M, q1, q2, q3, ⟨qa, qc, q4, _⟩⟩ => ⟨v, q1, q2.end q3, qa, qc, q4⟩)) (fun v hS => ?_))
  obtain ⟨qa, qc, rfl⟩ := hS
  simp (disch := omega) only [push_cast, Nat.reduceEqDiff]
  rw [V_cond]
  simp (disch := omega) only [push_cast, Nat.reduceEqDiff]
  refine condX_d (fun h1 => ?_) (fun h1 => ?_)
  · have hm' : mayP l nt = false := by unfold mayP; simpa using h1
    simp (disch := omega) only [push_cast, Nat.reduceEqDiff]
    refine storeX 0 rfl Siz.eq rfl rfl (by simp [Value.oneCell']) (by simp) ?_
    simp (disch := omega) only [push_cast, Nat.reduceEqDiff]
    refine loadX_agg Shp.eq mem0 rfl rfl ?_
    simp (disch := omega) only [push_cast, Nat.reduceEqDiff]
    have hr : atP l nt p = (f0, 5) := by unfold atP; rw [if_pos hm']
    rw [hr]
    exact fun w' hw' => ⟨_, L, rfl, hend _ _ w' hw', rfl, none, 0, rfl, by simp [Fld.sub], by omega, .nil _⟩
  have hm' : mayP l nt = true := by unfold mayP; simpa using h1
  simp (disch := omega) only [push_cast, Nat.reduceEqDiff]
  rw [V_cond]
  simp (disch := omega) only [push_cast, Nat.reduceEqDiff]
  refine condX_d (fun hp0 => ?_) (fun hp0 => ?_)
  · simp (disch := omega) only [push_cast, Nat.reduceEqDiff]
    refine storeX 0 rfl Siz.eq rfl rfl (by simp [Value.oneCell']) (by simp) ?_
    simp (disch := omega) only [push_cast, Nat.reduceEqDiff]
    refine loadX_agg Shp.eq mem0 rfl rfl ?_
    simp (disch := omega) only [push_cast, Nat.reduceEqDiff]
    have hr : atP l nt p = (f0, 1) := by unfold atP; rw [if_neg (by rw [hm']; simp), if_pos (List.eq_nil_of_length_eq_zero (by omega))]
    rw [hr]
    exact fun w' hw' => ⟨_, L, rfl, hend _ _ w' hw', rfl, none, 0, rfl, by simp [Fld.sub], by omega, .nil _⟩
  have hpn : p ≠ [] := fun h => hp0 (by rw [h]; rfl)
  have hsome : ∀ f, goP (rT l) p = some f → atP l nt p = (f, 0) := fun f h => by unfold atP; rw [if_neg (by rw [hm']; simp), if_neg hpn, h]
  have hnone : goP (rT l) p = none → atP l nt p = (f0, 2) := fun h => by unfold atP; rw [if_neg (by rw [hm']; simp), if_neg hpn, h]
  simp (disch := omega) only [push_cast, Nat.reduceEqDiff]
  refine ldOne Shp.eq mem1 rfl ?_
  simp (disch := omega) only [push_cast, Nat.reduceEqDiff]
  refine newI (fun b7 hb7 hn7 => ?_)
  simp (disch := omega) only [push_cast, Nat.reduceEqDiff]
  refine storeX 0 rfl Siz.eq rfl rfl (by simp [Value.oneCell']) (by simp) ?_
  simp (disch := omega) only [push_cast, Nat.reduceEqDiff]
  rw [V_block]
  simp (disch := omega) only [push_cast, Nat.reduceEqDiff]
  refine loopW (G := Nat) (AtRI wb lo b2 b4 b7 a l c na nt nc L pa p pc) (fun i => p.length - i) 0 _ (fun w hw => hw) (by kernel_rfl) ⟨rfl, rfl, ⟨rT l, a, c, [str [], .bool false, i64 0, i64 0, i64 0, i64 0, .slice none 0 0], rfl, rfl, rfl, rfl, hsc.hr, hsc.hc, hsc.hc2, .inl rfl⟩, by omega, rfl, rfl, rfl, rfl, rfl⟩ ?_
  clear hw
  rintro i wb e ds L' ⟨rfl, rfl, ⟨g, ga, gc, bx, rfl, hbx, h6, hgo, hgr, hgc, hgc2, hi0⟩, hil, h4, h7, h22, h23, h24⟩
  have hL6 : ∀ x : Obj, ∀ q ∈ ((b7, x) :: (b4, Obj.cells #[str [], .bool false, i64 0, i64 0, i64 0, i64 0, .slice none 0 0] 38 (0, 0)) :: (b2, Obj.cells #[.slice a l.length c, .slice na nt.length nc] 25 (0, 0)) :: L), wb.heap.size ≤ q.1 := fun x q hq => by
    rcases List.mem_cons.1 hq with rfl | hq
    · exact hb7
    · exact hL q hq
  have hend3 : ∀ (x y z : Obj) w', Sy wb ((b7, x) :: (b4, y) :: (b2, z) :: L) w' → Sy wb L w' := fun x y z w' h => h.drop (((List.Sublist.refl L).cons _ |>.cons _).cons _) (fun q hq => .inr (by
    simp only [List.mem_cons] at hq
    rcases hq with rfl | rfl | rfl | hq
    · exact hb7
    · exact hb4
    · exact hb2
    · exact hLn q hq))
  simp (disch := omega) only [push_cast, Nat.reduceEqDiff, h4, h6, h7, h22, h23, h24]
  rw [V_cond]
  simp (disch := omega) only [push_cast, Nat.reduceEqDiff, h4, h6, h7, h22, h23, h24]
  refine condX_d (fun hlt => ?_) (fun hge => ?_)
  · obtain ⟨k, hk⟩ : ∃ k, p[i]? = some k := ⟨_, List.getElem?_eq_getElem (by omega)⟩
    rcases hp with rfl | ⟨pb, poff, rfl, hpa⟩
    · simp at hk
    simp (disch := omega) only [push_cast, Nat.reduceEqDiff, h4, h6, h7, h22, h23, h24]
    rw [V_block]
    simp (disch := omega) only [push_cast, Nat.reduceEqDiff, h4, h6, h7, h22, h23, h24]
    refine ldF Shp.eq (by simpa using hpa i k hk) (out_of (fun q hq => Nat.lt_of_lt_of_le (hpa i k hk).lt (hL6 _ q hq))) ?_
    simp (disch := omega) only [push_cast, Nat.reduceEqDiff, h4, h6, h7, h22, h23, h24]
    have hbad : ¬ (0 ≤ k ∧ k < g.sub.length) → atP l nt p = (f0, 2) := fun hb => by
      have : goP (rT l) p = none := go_none (i := i + 1) (by rw [take_go hk hgo, goP, if_neg hb])
      exact hnone this
    refine guardX_f rfl (fun hk0 => ?_) (fun hk0 => ?_)
    rotate_left
    · simp (disch := omega) only [push_cast, Nat.reduceEqDiff, h4, h6, h7, h22, h23, h24]
      rw [V_cond]
      simp (disch := omega) only [push_cast, Nat.reduceEqDiff, h4, h6, h7, h22, h23, h24]
      refine storeX 1 rfl Siz.eq rfl rfl (by simp [Value.oneCell']) (by simp) ?_
      simp (disch := omega) only [push_cast, Nat.reduceEqDiff, h4, h6, h7, h22, h23, h24]
      refine loadX_agg Shp.eq mem1 rfl rfl ?_
      simp (disch := omega) only [push_cast, Nat.reduceEqDiff, h4, h6, h7, h22, h23, h24]
      rw [hbad (by omega)]
      exact fun w' hw' => ⟨_, L, rfl, hend3 _ _ _ w' hw', rfl, none, 0, rfl, by simp [Fld.sub], by omega, .nil _⟩
    simp (disch := omega) only [push_cast, Nat.reduceEqDiff, h4, h6, h7, h22, h23, h24]
    rw [V_cond]
    simp (disch := omega) only [push_cast, Nat.reduceEqDiff, h4, h6, h7, h22, h23, h24]
    refine condX_d (fun hkl => ?_) (fun hkl => ?_)
    · simp (disch := omega) only [push_cast, Nat.reduceEqDiff, h4, h6, h7, h22, h23, h24]
      refine storeX 1 rfl Siz.eq rfl rfl (by simp [Value.oneCell']) (by simp) ?_
      simp (disch := omega) only [push_cast, Nat.reduceEqDiff, h4, h6, h7, h22, h23, h24]
      refine loadX_agg Shp.eq mem1 rfl rfl ?_
      simp (disch := omega) only [push_cast, Nat.reduceEqDiff, h4, h6, h7, h22, h23, h24]
      rw [hbad (by omega)]
      exact fun w' hw' => ⟨_, L, rfl, hend3 _ _ _ w' hw', rfl, none, 0, rfl, by simp [Fld.sub], by omega, .nil _⟩
    obtain ⟨j, rfl⟩ : ∃ j : Nat, k = j := ⟨k.toNat, by omega⟩
    obtain ⟨f, hf⟩ : ∃ f, g.sub[j]? = some f := ⟨_, List.getElem?_eq_getElem (by omega)⟩
    obtain ⟨b, off, rfl, hb⟩ : ∃ b off, ga = some ⟨b, off, none⟩ ∧ b < lo := by
      cases hs : g.sub with
      | nil => rw [hs] at hf; simp at hf
      | cons x y => rw [hs] at hgr; exact hgr.some_of
    obtain ⟨fa, fc, x1, x2, x3, x4, x5, x6⟩ := hgr.get j hf
    obtain ⟨v0, v1, v2, v3, v4, v5, v6, rfl⟩ : ∃ v0 v1 v2 v3 v4 v5 v6, bx = [v0, v1, v2, v3, v4, v5, v6] := by
      match bx, hbx with
      | [v0, v1, v2, v3, v4, v5, v6], _ => exact ⟨v0, v1, v2, v3, v4, v5, v6, rfl⟩
    simp (disch := omega) only [push_cast, Nat.reduceEqDiff, h4, h6, h7, h22, h23, h24, Int.toNat_natCast]
    refine ldAggF Shp.eq x2 rfl (out_of (fun q hq => Nat.lt_of_lt_of_le (Nat.lt_of_lt_of_le x1 hlo) (hL6 _ q hq))) ?_
    simp (disch := omega) only [push_cast, Nat.reduceEqDiff, h4, h6, h7, h22, h23, h24, Fld.cells]
    refine storeX 0 rfl Siz.eq rfl rfl (by simp [Value.oneCell']) (by simp) ?_
    simp (disch := omega) only [push_cast, Nat.reduceEqDiff, h4, h6, h7, h22, h23, h24]
    refine ldOne Shp.eq mem0 rfl ?_
    simp (disch := omega) only [push_cast, Nat.reduceEqDiff, h4, h6, h7, h22, h23, h24]
    refine ⟨i + 1, _, fun w hw => hw, ⟨rfl, rfl, ⟨f, fa, fc, _, rfl, rfl, rfl, ?_, x6, x3, x5, .inr rfl⟩, by omega, h4, h7, h22, h23, by simp only [upd]; rfl⟩, by omega⟩
    rw [take_go hk hgo, goP, if_pos ⟨by omega, by omega⟩, Int.toNat_natCast, hf]
    rfl
  · obtain rfl : i = p.length := by omega
    rw [List.take_length] at hgo
    have hr : atP l nt p = (g, 0) := hsome g hgo
    rcases hi0 with hi0 | rfl
    · exact absurd (List.eq_nil_of_length_eq_zero hi0) hpn
    simp (disch := omega) only [push_cast, Nat.reduceEqDiff, h4, h6, h7, h22, h23, h24]
    refine loadX_agg Shp.eq mem0 rfl rfl ?_
    simp (disch := omega) only [push_cast, Nat.reduceEqDiff, h4, h6, h7, h22, h23, h24]
    refine storeX 1 rfl Siz.eq rfl rfl (by simp [Value.oneCell']) (by simp) ?_
    simp (disch := omega) only [push_cast, Nat.reduceEqDiff, h4, h6, h7, h22, h23, h24]
    refine loadX_agg Shp.eq mem1 rfl rfl ?_
    simp (disch := omega) only [push_cast, Nat.reduceEqDiff, h4, h6, h7, h22, h23, h24]
    rw [hr]
    exact fun w' hw' => ⟨_, L, rfl, hend3 _ _ _ w' hw', rfl, ga, gc, rfl, hgc, hgc2, hgr⟩
end Go.Proofs.YtgbafmjgfbgeoaaDoor
