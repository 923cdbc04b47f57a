/- YtjkogfiidhjpcaaDoor: walks, part 126: a field of one's own memory, if it has few children. -/
import Derived.Test.YtjkogfiidhjpcaaDoorW116
import Derived.Test.YtjkogfiidhjpcaaDoorW84
import Derived.Test.YtjkogfiidhjpcaaDoorKo
import Derived.Test.YtjkogfiidhjpcaaDoorKs
namespace Go.Proofs.YtjkogfiidhjpcaaDoor
open Go Go.K
set_option maxRecDepth 100000
set_option linter.unusedVariables false
set_option linter.unusedSimpArgs false
set_option maxHeartbeats 4000000
mutual
theorem wideFF_le {m n : Nat} (h : m ≤ n) : ∀ (f : Fld), wideF m f = true → wideF n f = true
  | .mk nm nl k wd id ix sub, hf => by
    rw [wideF, Bool.and_eq_true] at hf ⊢
    exact ⟨decide_eq_true (Nat.le_trans (of_decide_eq_true hf.1) h), wideLL_le h hf.2⟩
theorem wideLL_le {m n : Nat} (h : m ≤ n) : ∀ {l : List Fld}, wideL m l = true → wideL n l = true
  | [], _ => by rw [wideL]
  | f :: l, hl => by
    rw [wideL, Bool.and_eq_true] at hl ⊢
    exact ⟨wideFF_le h f hl.1, wideLL_le h hl.2⟩
end
mutual
/-- How many more fields there may be; below 0: none. -/
def leftF : Fld → Int → Int
  | .mk _ _ _ _ _ _ sub, m => leftL sub m
def leftL : List Fld → Int → Int
  | [], m => m
  | f :: l, m => if m - 1 < 0 then -1 else if leftF f (m - 1) < 0 then -1 else leftL l (leftF f (m - 1))
end
theorem leftF_eq (f : Fld) (m : Int) : leftF f m = leftL f.sub m := by cases f; rw [leftF]; rfl
theorem leftL_cons (f : Fld) (l : List Fld) (m : Int) : leftL (f :: l) m = if m - 1 < 0 then -1 else if leftL f.sub (m - 1) < 0 then -1 else leftL l (leftL f.sub (m - 1)) := by rw [leftL, leftF_eq]
mutual
theorem leftF_le : ∀ (f : Fld) (m : Int), 0 ≤ m → -1 ≤ leftF f m ∧ leftF f m ≤ m ∧ (0 ≤ leftF f m → (f.sub.length : Int) ≤ m ∧ wideL m.toNat f.sub = true)
  | .mk _ _ _ _ _ _ sub, m, h => by
    rw [leftF]
    have q := leftL_le sub m h
    exact ⟨q.1, q.2.1, fun h => ⟨by have := (q.2.2 h).1; simp only [Fld.sub]; omega, (q.2.2 h).2⟩⟩
theorem leftL_le : ∀ (l : List Fld) (m : Int), 0 ≤ m → -1 ≤ leftL l m ∧ leftL l m ≤ m ∧ (0 ≤ leftL l m → (l.length : Int) + leftL l m ≤ m ∧ wideL m.toNat l = true)
  | [], m, h => by rw [leftL]; exact ⟨by omega, Int.le_refl _, fun _ => ⟨by simp, by rw [wideL]⟩⟩
  | f :: l, m, h => by
    rw [leftL]
    split
    · exact ⟨by omega, by omega, fun h => absurd h (by omega)⟩
    rename_i h1
    have hf := leftF_le f (m - 1) (by omega)
    split
    · exact ⟨by omega, by omega, fun h => absurd h (by omega)⟩
    rename_i h2
    have hl := leftL_le l (leftF f (m - 1)) (by omega)
    refine ⟨hl.1, by omega, fun h => ?_⟩
    have h3 := hl.2.2 h
    have h4 := hf.2.2 (by omega)
    refine ⟨by rw [List.length_cons]; omega, ?_⟩
    rw [wideL, Bool.and_eq_true]
    exact ⟨(wideF_iff _ _).2 ⟨by omega, wideLL_le (by omega) h4.2⟩, wideLL_le (by omega) h3.2⟩
end
structure LfI (w0 : World) (l : List Fld) (a : Option Addr) (c : Nat) (r : Int) (i : Nat) (wb : World) (e : Env) (ds : List Deferred) (L : Own) : Prop where
  hw : wb = w0
  hds : ds = []
  o : L = []
  hi : i ≤ l.length
  hm : ∃ m : Int, e 1 = i64 m ∧ 0 ≤ m ∧ m ≤ 1048576 ∧ leftL (l.drop i) m = r
  h0 : e 0 = .slice a l.length c
  h7 : e 7 = i64 l.length
  h8 : e 8 = i64 i
def LeftOK (n : Nat) : Prop := ∀ (w : World) (lo : Nat) (l : List Fld) (a : Option Addr) (c : Nat) (m : Int), SizeOf.sizeOf l ≤ n → lo ≤ w.heap.size → Rd w lo a l → l.length ≤ c → c ≤ 9223372036854775807 → 0 ≤ m → m ≤ 1048576 →
  Calls Tryd.prog 61 #[.slice a l.length c, i64 m] w (Rets w (Is (i64 (leftL l m))))
theorem left_step (n : Nat) (hT : LeftOK n) : LeftOK (n + 1) := by
  intro w lo l a c m hn hlo hr hc hc2 hm0 hm1
  refine enterT (args := [.slice a l.length c, i64 m]) Tryd.func61 rfl Tryd.ntmps61 (congrArg Array.toList Tryd.results61) (by kernel_rfl) (by simp) (Sy.refl w) ?_
  simp (disch := omega) only [push_cast, Nat.reduceEqDiff]
  rw [V_block]
  simp (disch := omega) only [push_cast, Nat.reduceEqDiff]
  refine loopW (G := Nat) (LfI w l a c (leftL l m)) (fun i => l.length - i) 0 _ (fun w hw => hw) (by kernel_rfl) ⟨rfl, rfl, rfl, by omega, ⟨m, rfl, hm0, hm1, by rw [List.drop_zero]⟩, rfl, rfl, rfl⟩ ?_
  rintro i wb e ds L ⟨rfl, rfl, rfl, hi, ⟨m1, h1, hm2, hm3, hmr⟩, h0, h7, h8⟩
  simp (disch := omega) only [push_cast, Nat.reduceEqDiff, h0, h1, h7, h8]
  rw [V_cond]
  simp (disch := omega) only [push_cast, Nat.reduceEqDiff, h0, h1, h7, h8]
  refine condX_d (fun hlt => ?_) (fun hge => ?_)
  rotate_left
  · obtain rfl : i = l.length := by omega
    rw [List.drop_length, leftL] at hmr
    simp (disch := omega) only [push_cast, Nat.reduceEqDiff, h0, h1, h7, h8]
    exact finIs (by simp) (by rw [hmr])
  obtain ⟨f, hf⟩ : ∃ f, l[i]? = some f := ⟨_, List.getElem?_eq_getElem (by omega)⟩
  have hdrop : l.drop i = f :: l.drop (i + 1) := by
    obtain ⟨q1, rfl⟩ := List.getElem?_eq_some_iff.1 hf
    exact List.drop_eq_getElem_cons q1
  rw [hdrop, leftL_cons] at hmr
  have hszf : SizeOf.sizeOf f.sub ≤ n := by
    have q1 := List.sizeOf_lt_of_mem (List.mem_of_getElem? hf)
    have q2 : SizeOf.sizeOf f.sub < SizeOf.sizeOf f := by cases f; simp only [Fld.sub, Fld.mk.sizeOf_spec]; omega
    omega
  obtain ⟨b, off, rfl, hb⟩ : ∃ b off, a = some ⟨b, off, none⟩ ∧ b < lo := by
    obtain ⟨f0, l0, rfl⟩ : ∃ f l', l = f :: l' := List.exists_cons_of_ne_nil (by rintro rfl; simp at hf)
    exact hr.some_of
  obtain ⟨fa, fc, x1, x2, x3, x4, x5, x6⟩ := hr.get i hf
  simp (disch := omega) only [push_cast, Nat.reduceEqDiff, h0, h1, h7, h8]
  rw [V_block]
  simp (disch := omega) only [push_cast, Nat.reduceEqDiff, h0, h1, h7, h8]
  rw [V_cond]
  simp (disch := omega) only [push_cast, Nat.reduceEqDiff, h0, h1, h7, h8]
  refine condX_d (fun hneg => ?_) (fun hneg => ?_)
  · simp (disch := omega) only [push_cast, Nat.reduceEqDiff, h0, h1, h7, h8]
    rw [if_pos hneg] at hmr
    exact finIs (by simp) (by rw [← hmr])
  rw [if_neg hneg] at hmr
  simp (disch := omega) only [push_cast, Nat.reduceEqDiff, h0, h1, h7, h8]
  have hsub6 : At wb b (off + i * 7 + 6) [.slice fa f.sub.length fc] := x2.sub 6 _ rfl
  refine ldF Shp.eq hsub6 (by simp) ?_
  simp (disch := omega) only [push_cast, Nat.reduceEqDiff, h0, h1, h7, h8]
  refine callV en_61 (callX_is (fun w' hw' => hT w' lo f.sub fa fc (m1 - 1) hszf (Nat.le_trans hlo hw'.size) (x6.sy hlo hw' (by simp)) x3 x5 (by omega) (by omega)) ?_)
  have hle := leftL_le f.sub (m1 - 1) (by omega)
  simp (disch := omega) only [push_cast, Nat.reduceEqDiff, h0, h7, h8]
  rw [V_cond]
  simp (disch := omega) only [push_cast, Nat.reduceEqDiff, h0, h7, h8]
  refine condX_d (fun hneg2 => ?_) (fun hneg2 => ?_)
  · simp (disch := omega) only [push_cast, Nat.reduceEqDiff, h0, h7, h8]
    rw [if_pos hneg2] at hmr
    exact finIs (by simp) (by rw [← hmr])
  rw [if_neg hneg2] at hmr
  simp (disch := omega) only [push_cast, Nat.reduceEqDiff, h0, h7, h8]
  exact ⟨i + 1, _, fun w hw => hw, ⟨rfl, rfl, rfl, by omega, ⟨leftL f.sub (m1 - 1), by simp only [upd]; rfl, by omega, by omega, hmr⟩, h0, h7, by simp only [upd]; rfl⟩, by omega⟩
theorem left_walk (w : World) (lo : Nat) (l : List Fld) (a : Option Addr) (c : Nat) (m : Int) (hlo : lo ≤ w.heap.size) (hr : Rd w lo a l) (hc : l.length ≤ c) (hc2 : c ≤ 9223372036854775807) (hm0 : 0 ≤ m) (hm1 : m ≤ 1048576) :
    Calls Tryd.prog 61 #[.slice a l.length c, i64 m] w (Rets w (Is (i64 (leftL l m)))) := by
  have key : ∀ n, LeftOK n := fun n => by
    induction n with
    | zero => intro w lo l a c m hn; cases l <;> simp at hn
    | succ n ih => exact left_step n ih
  exact key _ w lo l a c m (Nat.le_refl _) hlo hr hc hc2 hm0 hm1
end Go.Proofs.YtjkogfiidhjpcaaDoor
/- YtjkogfiidhjpcaaDoor: walks, part 127: the reference's EqField of a field and the same field elsewhere; a field of one's own memory, if it has few children. -/
namespace Go.Proofs.YtjkogfiidhjpcaaDoor
open Go Go.K
set_option maxRecDepth 100000
set_option linter.unusedVariables false
set_option linter.unusedSimpArgs false
set_option maxHeartbeats 4000000
structure SnI (w : World) (b2 b3 : Nat) (f g : Fld) (a a' : Option Addr) (c c' : Nat) (wb : World) (e : Env) (ds : List Deferred) (L : Own) : Prop where
  hw : wb = w
  hds : ds = []
  h2 : e 2 = .pointer (some ⟨b2, 0, none⟩)
  h3 : e 3 = .pointer (some ⟨b3, 0, none⟩)
  o : ∃ b5 b6, e 5 = .pointer (some ⟨b5, 0, none⟩) ∧ e 6 = .pointer (some ⟨b6, 0, none⟩) ∧ w.heap.size ≤ b5 ∧ w.heap.size ≤ b6 ∧ L = [(b6, Obj.cells #[i64 g.k, i64 g.wd, i64 g.id, i64 g.ix, .slice a' g.sub.length c'] 24 (0, 0)), (b5, Obj.cells #[i64 f.k, i64 f.wd, i64 f.id, i64 f.ix, .slice a f.sub.length c] 24 (0, 0)), (b3, Obj.cells #[str g.nm, .bool g.nl, i64 g.k, i64 g.wd, i64 g.id, i64 g.ix, .slice a' g.sub.length c'] 26 (0, 0)), (b2, Obj.cells #[str f.nm, .bool f.nl, i64 f.k, i64 f.wd, i64 f.id, i64 f.ix, .slice a f.sub.length c] 26 (0, 0))]
abbrev fldV (f : Fld) (a : Option Addr) (c : Nat) : Value := .agg #[str f.nm, .bool f.nl, i64 f.k, i64 f.wd, i64 f.id, i64 f.ix, .slice a f.sub.length c]
def EqFsOK (n : Nat) : Prop := ∀ (w : World) (lo lo' : Nat) (l : List Fld) (a a' : Option Addr) (c c' : Nat), lo ≤ w.heap.size → lo' ≤ w.heap.size → Rd w lo a l → Rd w lo' a' l → l.length ≤ 9223372036854775807 → SizeOf.sizeOf l < n → Calls Tryd.prog 65 #[.slice a l.length c, .slice a' l.length c'] w (Rets w (Is (.bool true)))
def EqFOK (n : Nat) : Prop := ∀ (w : World) (lo lo' : Nat) (f : Fld) (a a' : Option Addr) (c c' : Nat), lo ≤ w.heap.size → lo' ≤ w.heap.size → Rd w lo a f.sub → Rd w lo' a' f.sub → f.sub.length ≤ 9223372036854775807 → SizeOf.sizeOf f < n → Calls Tryd.prog 44 #[fldV f a c, fldV f a' c'] w (Rets w (Is (.bool true)))
theorem eqField_step (n : Nat) (hF : EqFsOK n) : EqFOK (n + 1) := by
  intro w lo lo' f a a' c c' hlo hlo' hr hr' hl hsz
  refine enterT (args := [fldV f a c, fldV f a' c']) Tryd.func44 rfl Tryd.ntmps44 (congrArg Array.toList Tryd.results44) (by kernel_rfl) (by simp) (Sy.refl w) ?_
  simp (disch := omega) only [push_cast, Nat.reduceEqDiff, fldV]
  refine newI (fun b2 hb2 hn2 => ?_)
  simp (disch := omega) only [push_cast, Nat.reduceEqDiff]
  refine newI (fun b3 hb3 hn3 => ?_)
  simp (disch := omega) only [push_cast, Nat.reduceEqDiff]
  repeat' (first | ((first | refine guardX_t rfl (fun h => ?_) (fun h => ?_) | refine guardX_f rfl (fun h => ?_) (fun h => ?_) | refine condX_d (fun h => ?_) (fun h => ?_) | (refine guardX_bt rfl (fun h => ?_) (fun h => ?_) <;> (try subst h)) | (refine guardX_bf rfl (fun h => ?_) (fun h => ?_) <;> (try subst h)) | (refine condX_b (fun h => ?_) (fun h => ?_) <;> (try subst h)) | refine ldOne Shp.eq (by (first | exact mem0 | exact mem1 | exact mem2 | exact mem3 | exact mem4 | exact mem5)) rfl ?_ | refine loadX_agg Shp.eq (by (first | exact mem0 | exact mem1 | exact mem2 | exact mem3 | exact mem4 | exact mem5)) rfl rfl ?_ | refine newI (fun b hb hn => ?_) | refine storeX 0 rfl Siz.eq rfl rfl (by simp [Value.oneCell']) (by simp) ?_ | refine storeX 1 rfl Siz.eq rfl rfl (by simp [Value.oneCell']) (by simp) ?_ | refine storeX 2 rfl Siz.eq rfl rfl (by simp [Value.oneCell']) (by simp) ?_ | refine storeX 3 rfl Siz.eq rfl rfl (by simp [Value.oneCell']) (by simp) ?_ | refine storeX 4 rfl Siz.eq rfl rfl (by simp [Value.oneCell']) (by simp) ?_ | refine storeX 5 rfl Siz.eq rfl rfl (by simp [Value.oneCell']) (by simp) ?_ | refine storeX 6 rfl Siz.eq rfl rfl (by simp [Value.oneCell']) (by simp) ?_) <;> simp (disch := omega) only [push_cast, Nat.reduceEqDiff]))
  have hL : ∀ p ∈ [(b3, Obj.cells #[str f.nm, .bool f.nl, i64 f.k, i64 f.wd, i64 f.id, i64 f.ix, .slice a' f.sub.length c'] 26 (0, 0)), (b2, Obj.cells #[str f.nm, .bool f.nl, i64 f.k, i64 f.wd, i64 f.id, i64 f.ix, .slice a f.sub.length c] 26 (0, 0))], w.heap.size ≤ p.1 := by
    intro p hp
    simp only [List.mem_cons, List.mem_nil_iff, or_false] at hp
    rcases hp with rfl | rfl <;> assumption
  refine cutW (SnI w b2 b3 f f a a' c c') ?_ ?_
  · refine freeTs [0, 1, 2, 3] [4, 5, 6, 7] [[4, 5, 6, 7], [5, 4, 6, 7]] [(b3, Obj.cells #[str f.nm, .bool f.nl, i64 f.k, i64 f.wd, i64 f.id, i64 f.ix, .slice a' f.sub.length c'] 26 (0, 0)), (b2, Obj.cells #[str f.nm, .bool f.nl, i64 f.k, i64 f.wd, i64 f.id, i64 f.ix, .slice a f.sub.length c] 26 (0, 0))] (by kernel_rfl) mixed (by kernel_rfl) (by kernel_rfl) (fun h => by cases h) (fun w hw => hw) ?_
    simp (disch := omega) only [push_cast, Nat.reduceEqDiff]
    refine loadX_agg Shp.eq (.tail _ (.head _)) rfl rfl ?_
    simp (disch := omega) only [push_cast, Nat.reduceEqDiff]
    refine loadX_agg Shp.eq (.head _) rfl rfl ?_
    simp (disch := omega) only [push_cast, Nat.reduceEqDiff]
    have st1 : ∀ x : Nat × Obj, w.heap.size ≤ x.1 → Stab w (x :: [(b3, Obj.cells #[str f.nm, .bool f.nl, i64 f.k, i64 f.wd, i64 f.id, i64 f.ix, .slice a' f.sub.length c'] 26 (0, 0)), (b2, Obj.cells #[str f.nm, .bool f.nl, i64 f.k, i64 f.wd, i64 f.id, i64 f.ix, .slice a f.sub.length c] 26 (0, 0))]) [(b3, Obj.cells #[str f.nm, .bool f.nl, i64 f.k, i64 f.wd, i64 f.id, i64 f.ix, .slice a' f.sub.length c'] 26 (0, 0)), (b2, Obj.cells #[str f.nm, .bool f.nl, i64 f.k, i64 f.wd, i64 f.id, i64 f.ix, .slice a f.sub.length c] 26 (0, 0))] := fun x hx => Stab.of (.cons _ (List.Sublist.refl _)) (fun p hp => by
      rcases List.mem_cons.1 hp with rfl | hp
      · exact hx
      · exact hL p hp)
    have st2 : ∀ x y : Nat × Obj, w.heap.size ≤ x.1 → w.heap.size ≤ y.1 → Stab w (x :: y :: [(b3, Obj.cells #[str f.nm, .bool f.nl, i64 f.k, i64 f.wd, i64 f.id, i64 f.ix, .slice a' f.sub.length c'] 26 (0, 0)), (b2, Obj.cells #[str f.nm, .bool f.nl, i64 f.k, i64 f.wd, i64 f.id, i64 f.ix, .slice a f.sub.length c] 26 (0, 0))]) [(b3, Obj.cells #[str f.nm, .bool f.nl, i64 f.k, i64 f.wd, i64 f.id, i64 f.ix, .slice a' f.sub.length c'] 26 (0, 0)), (b2, Obj.cells #[str f.nm, .bool f.nl, i64 f.k, i64 f.wd, i64 f.id, i64 f.ix, .slice a f.sub.length c] 26 (0, 0))] := fun x y hx hy => Stab.of (.cons _ (.cons _ (List.Sublist.refl _))) (fun p hp => by
      rcases List.mem_cons.1 hp with rfl | hp
      · exact hx
      · rcases List.mem_cons.1 hp with rfl | hp
        · exact hy
        · exact hL p hp)
    intro t ht
    simp only [List.mem_cons, List.mem_nil_iff, or_false] at ht
    rcases ht with rfl | rfl
    · simp (disch := omega) only [push_cast, Nat.reduceEqDiff]
      refine newI (fun b5 hb5 hn5 => ?_)
      simp (disch := omega) only [push_cast, Nat.reduceEqDiff]
      refine ⟨st1 _ hb5, newI (fun b6 hb6 hn6 => ?_)⟩
      simp (disch := omega) only [push_cast, Nat.reduceEqDiff]
      refine ⟨st2 _ _ hb6 hb5, storeX 1 rfl Siz.eq rfl rfl (by simp [Value.oneCell']) (by simp) ?_⟩
      simp (disch := omega) only [push_cast, Nat.reduceEqDiff]
      refine ⟨st2 _ _ hb6 hb5, storeX 0 rfl Siz.eq rfl rfl (by simp [Value.oneCell']) (by simp) ?_⟩
      simp (disch := omega) only [push_cast, Nat.reduceEqDiff]
      exact ⟨st2 _ _ hb6 hb5, _, fun w hw => hw, rfl, rfl, rfl, rfl, b5, b6, rfl, rfl, hb5, hb6, rfl⟩
    · simp (disch := omega) only [push_cast, Nat.reduceEqDiff]
      refine newI (fun b6 hb6 hn6 => ?_)
      simp (disch := omega) only [push_cast, Nat.reduceEqDiff]
      refine ⟨st1 _ hb6, newI (fun b5 hb5 hn5 => ?_)⟩
      simp (disch := omega) only [push_cast, Nat.reduceEqDiff]
      refine ⟨st2 _ _ hb5 hb6, storeX 0 rfl Siz.eq rfl rfl (by simp [Value.oneCell']) (by simp) ?_⟩
      simp (disch := omega) only [push_cast, Nat.reduceEqDiff]
      refine ⟨st2 _ _ hb5 hb6, storeX 1 rfl Siz.eq rfl rfl (by simp [Value.oneCell']) (by simp) ?_⟩
      simp (disch := omega) only [push_cast, Nat.reduceEqDiff]
      exact ⟨st2 _ _ hb5 hb6, _, fun w hw => hw.perm (.swap _ _ _), rfl, rfl, rfl, rfl, b5, b6, rfl, rfl, hb5, hb6, rfl⟩
  · rintro wb e ds L ⟨rfl, rfl, e2, e3, ⟨b5, b6, e5, e6, hb5, hb6, rfl⟩⟩
    have hL4 : ∀ p ∈ [(b6, Obj.cells #[i64 f.k, i64 f.wd, i64 f.id, i64 f.ix, .slice a' f.sub.length c'] 24 (0, 0)), (b5, Obj.cells #[i64 f.k, i64 f.wd, i64 f.id, i64 f.ix, .slice a f.sub.length c] 24 (0, 0)), (b3, Obj.cells #[str f.nm, .bool f.nl, i64 f.k, i64 f.wd, i64 f.id, i64 f.ix, .slice a' f.sub.length c'] 26 (0, 0)), (b2, Obj.cells #[str f.nm, .bool f.nl, i64 f.k, i64 f.wd, i64 f.id, i64 f.ix, .slice a f.sub.length c] 26 (0, 0))], wb.heap.size ≤ p.1 := by
      intro p hp
      simp only [List.mem_cons, List.mem_nil_iff, or_false] at hp
      rcases hp with rfl | rfl | rfl | rfl <;> assumption
    have hszs : SizeOf.sizeOf f.sub < n := by
      have : SizeOf.sizeOf f.sub < SizeOf.sizeOf f := by cases f; simp only [Fld.sub, Fld.mk.sizeOf_spec]; omega
      omega
    simp (disch := omega) only [push_cast, Nat.reduceEqDiff, e2, e3, e5, e6, decide_true, beq_self_eq_true]
    repeat' (first | (refine ldOne Shp.eq (by (first | exact mem0 | exact mem1 | exact mem2 | exact mem3 | exact mem4 | exact mem5)) rfl ?_; simp (disch := omega) only [push_cast, Nat.reduceEqDiff, e2, e3, e5, e6, decide_true, beq_self_eq_true]))
    refine callV en_65 (callX_is (fun w' hw' => hF w' lo lo' f.sub a a' c c' (Nat.le_trans hlo hw'.size) (Nat.le_trans hlo' hw'.size) (hr.sy hlo hw' (fun p hp => Nat.le_trans hlo (hL4 p hp))) (hr'.sy hlo' hw' (fun p hp => Nat.le_trans hlo' (hL4 p hp))) hl hszs) ?_)
    simp (disch := omega) only [push_cast, Nat.reduceEqDiff, e2, e3, e5, e6]
    exact finIs hL4 rfl
structure EqFsI (w0 : World) (l : List Fld) (a a' : Option Addr) (c c' : Nat) (i : Nat) (wb : World) (e : Env) (ds : List Deferred) (L : Own) : Prop where
  hw : wb = w0
  hds : ds = []
  o : L = []
  il : i ≤ l.length
  h0 : e 0 = .slice a l.length c
  h1 : e 1 = .slice a' l.length c'
  h12 : e 12 = i64 l.length
  h13 : e 13 = i64 i
theorem eqFields_step (n : Nat) (hF : EqFOK n) : EqFsOK (n + 1) := by
  intro w lo lo' l a a' c c' hlo hlo' hr hr' hl hsz
  refine enterT (args := [.slice a l.length c, .slice a' l.length c']) Tryd.func65 rfl Tryd.ntmps65 (congrArg Array.toList Tryd.results65) (by kernel_rfl) (by simp) (Sy.refl w) ?_
  simp (disch := omega) only [push_cast, Nat.reduceEqDiff, ne_eq, not_true_eq_false, decide_false]
  rw [V_cond]
  simp (disch := omega) only [push_cast, Nat.reduceEqDiff]
  repeat' (first | ((first | refine guardX_t rfl (fun h => ?_) (fun h => ?_) | refine guardX_f rfl (fun h => ?_) (fun h => ?_) | refine condX_d (fun h => ?_) (fun h => ?_) | (refine guardX_bt rfl (fun h => ?_) (fun h => ?_) <;> (try subst h)) | (refine guardX_bf rfl (fun h => ?_) (fun h => ?_) <;> (try subst h)) | (refine condX_b (fun h => ?_) (fun h => ?_) <;> (try subst h)) | refine ldOne Shp.eq (by (first | exact mem0 | exact mem1 | exact mem2 | exact mem3 | exact mem4 | exact mem5)) rfl ?_ | refine loadX_agg Shp.eq (by (first | exact mem0 | exact mem1 | exact mem2 | exact mem3 | exact mem4 | exact mem5)) rfl rfl ?_ | refine newI (fun b hb hn => ?_) | refine storeX 0 rfl Siz.eq rfl rfl (by simp [Value.oneCell']) (by simp) ?_ | refine storeX 1 rfl Siz.eq rfl rfl (by simp [Value.oneCell']) (by simp) ?_ | refine storeX 2 rfl Siz.eq rfl rfl (by simp [Value.oneCell']) (by simp) ?_ | refine storeX 3 rfl Siz.eq rfl rfl (by simp [Value.oneCell']) (by simp) ?_ | refine storeX 4 rfl Siz.eq rfl rfl (by simp [Value.oneCell']) (by simp) ?_ | refine storeX 5 rfl Siz.eq rfl rfl (by simp [Value.oneCell']) (by simp) ?_ | refine storeX 6 rfl Siz.eq rfl rfl (by simp [Value.oneCell']) (by simp) ?_) <;> simp (disch := omega) only [push_cast, Nat.reduceEqDiff]))
  rw [V_block]
  simp (disch := omega) only [push_cast, Nat.reduceEqDiff]
  refine loopT (G := Nat) (EqFsI w l a a' c c') (fun i => l.length - i) 0 (by kernel_rfl) ⟨rfl, rfl, rfl, by omega, rfl, rfl, rfl, rfl⟩ ?_
  rintro i wb e ds L ⟨rfl, rfl, rfl, hil, h0, h1, h12, h13⟩
  simp (disch := omega) only [push_cast, Nat.reduceEqDiff, h0, h1, h12, h13]
  rw [V_cond]
  simp (disch := omega) only [push_cast, Nat.reduceEqDiff, h0, h1, h12, h13]
  refine condX_d (fun hlt => ?_) (fun hge => ?_)
  · obtain ⟨f, hf⟩ : ∃ f, l[i]? = some f := ⟨_, List.getElem?_eq_getElem (by omega)⟩
    have hne : ∃ f l', l = f :: l' := List.exists_cons_of_ne_nil (by rintro rfl; simp at hf)
    obtain ⟨b, off, rfl, hb⟩ : ∃ b off, a = some ⟨b, off, none⟩ ∧ b < lo := by
      obtain ⟨f0, l0, rfl⟩ := hne
      exact hr.some_of
    obtain ⟨b', off', rfl, hb'⟩ : ∃ b off, a' = some ⟨b, off, none⟩ ∧ b < lo' := by
      obtain ⟨f0, l0, rfl⟩ := hne
      exact hr'.some_of
    have hszf : SizeOf.sizeOf f < n := by
      have := List.sizeOf_lt_of_mem (List.mem_of_getElem? hf)
      omega
    obtain ⟨fa, fc, x1, x2, x3, x4, x5, x6⟩ := hr.get i hf
    obtain ⟨fa', fc', y1, y2, y3, y4, y5, y6⟩ := hr'.get i hf
    simp (disch := omega) only [push_cast, Nat.reduceEqDiff, h0, h1, h12, h13]
    rw [V_block]
    simp (disch := omega) only [push_cast, Nat.reduceEqDiff, h0, h1, h12, h13]
    refine drawQT (by kernel_rfl) (by kernel_rfl) mixed (by kernel_rfl) ?_
    simp (disch := omega) only [push_cast, Nat.reduceEqDiff, h0, h1, h12, h13]
    refine ldAggF Shp.eq x2 rfl (by simp) ?_
    simp (disch := omega) only [push_cast, Nat.reduceEqDiff, h0, h1, h12, h13, Fld.cells]
    refine ldAggF Shp.eq y2 rfl (by simp) ?_
    simp (disch := omega) only [push_cast, Nat.reduceEqDiff, h0, h1, h12, h13, Fld.cells]
    refine qcallV en_44 (qcallX_is _ (fun w' hw' => hF w' lo lo' f fa fa' fc fc' (Nat.le_trans hlo hw'.size) (Nat.le_trans hlo' hw'.size) (x6.sy hlo hw' (by simp)) (y6.sy hlo' hw' (by simp)) (by omega) hszf) ?_)
    simp (disch := omega) only [push_cast, Nat.reduceEqDiff, h0, h1, h12, h13]
    rw [V_cond]
    simp (disch := omega) only [push_cast, Nat.reduceEqDiff, h0, h1, h12, h13]
    refine condX_b (fun hm => by cases hm) (fun _ => ?_)
    simp (disch := omega) only [push_cast, Nat.reduceEqDiff, h0, h1, h12, h13]
    exact ⟨i + 1, ⟨rfl, rfl, rfl, by omega, h0, h1, h12, by simp only [upd]; rfl⟩, by omega⟩
  · simp (disch := omega) only [push_cast, Nat.reduceEqDiff, h0, h1, h12, h13]
    exact finIs (by simp) rfl
theorem eqs_ok : ∀ n, EqFsOK n ∧ EqFOK n
  | 0 => ⟨fun w lo lo' l a a' c c' _ _ _ _ _ h => by omega, fun w lo lo' f a a' c c' _ _ _ _ _ h => by omega⟩
  | n + 1 => ⟨eqFields_step n (eqs_ok n).2, eqField_step n (eqs_ok n).1⟩
theorem eqField_walk (w : World) (lo lo' : Nat) (f : Fld) (a a' : Option Addr) (c c' : Nat) (hlo : lo ≤ w.heap.size) (hlo' : lo' ≤ w.heap.size) (hr : Rd w lo a f.sub) (hr' : Rd w lo' a' f.sub) (hl : f.sub.length ≤ 9223372036854775807) : Calls Tryd.prog 44 #[fldV f a c, fldV f a' c'] w (Rets w (Is (.bool true))) :=
  (eqs_ok (SizeOf.sizeOf f + 1)).2 w lo lo' f a a' c c' hlo hlo' hr hr' hl (by omega)
theorem eqFields_walk (w : World) (lo lo' : Nat) (l : List Fld) (a a' : Option Addr) (c c' : Nat) (hlo : lo ≤ w.heap.size) (hlo' : lo' ≤ w.heap.size) (hr : Rd w lo a l) (hr' : Rd w lo' a' l) (hl : l.length ≤ 9223372036854775807) : Calls Tryd.prog 65 #[.slice a l.length c, .slice a' l.length c'] w (Rets w (Is (.bool true))) :=
  (eqs_ok (SizeOf.sizeOf l + 1)).1 w lo lo' l a a' c c' hlo hlo' hr hr' hl (by omega)
theorem small_walk (w : World) (lo : Nat) (l : List Fld) (a : Option Addr) (c : Nat) (m : Int) (hlo : lo ≤ w.heap.size) (hr : Rd w lo a l) (hc : l.length ≤ c) (hc2 : c ≤ 9223372036854775807) (hm0 : 0 ≤ m) (hm1 : m ≤ 1048576) :
    Calls Tryd.prog 35 #[.slice a l.length c, i64 m] w (Rets w (Is (.bool (decide (0 ≤ leftL l m))))) := by
  refine enterT (args := [.slice a l.length c, i64 m]) Tryd.func35 rfl Tryd.ntmps35 (congrArg Array.toList Tryd.results35) (by kernel_rfl) (by simp) (Sy.refl w) ?_
  simp (disch := omega) only [push_cast, Nat.reduceEqDiff]
  refine callV en_61 (callX_is (fun w' hw' => left_walk w' lo l a c m (Nat.le_trans hlo hw'.size) (hr.sy hlo hw' (by simp)) hc hc2 hm0 hm1) ?_)
  simp (disch := omega) only [push_cast, Nat.reduceEqDiff]
  exact finIs (by simp) (by simp [ge_iff_le])
/-- Has a field few children? -/
def fewP (f : Fld) : Bool := decide (0 ≤ leftL [f] 300)
theorem few_wide {f : Fld} (h : fewP f = true) : wideF 1048576 f = true := by
  have h1 := (leftL_le [f] 300 (by omega)).2.2 (of_decide_eq_true h)
  have h2 := h1.2
  rw [wideL, Bool.and_eq_true] at h2
  exact wideFF_le (by decide) f h2.1
theorem own_walk (w : World) (lo : Nat) (hlo : lo ≤ w.heap.size) (f : Fld) (a : Option Addr) (c : Nat) (hA : FlAt w lo f a c) (hnm : f.nm.length ≤ 9223372036854775807) :
    Calls Tryd.prog 18 #[.agg (f.cells a c).toArray] w (RetsN w (fun u M => ∃ a' c', u = .tuple #[.agg (f.cells a' c').toArray, .bool (fewP f)] ∧ ((fewP f = true ∧ OwF f M a' c') ∨ (fewP f = false ∧ a' = a ∧ c' = c ∧ M = [])))) := by
  refine enterT (args := [.agg (f.cells a c).toArray]) Tryd.func18 rfl Tryd.ntmps18 (congrArg Array.toList Tryd.results18) (by kernel_rfl) (by simp) (Sy.refl w) ?_
  simp (disch := omega) only [push_cast, Nat.reduceEqDiff, Fld.cells]
  refine newI (fun b1 hb1 hn1 => ?_)
  simp (disch := omega) only [push_cast, Nat.reduceEqDiff, Fld.cells]
  refine newI (fun b2 hb2 hn2 => ?_)
  simp (disch := omega) only [push_cast, Nat.reduceEqDiff, Fld.cells]
  refine loadX_agg sh_26 mem1 rfl rfl ?_
  simp (disch := omega) only [push_cast, Nat.reduceEqDiff]
  refine bs_22_1 (newI fun b3 hb3 hn3 => ?_)
  have hL : ∀ (x y z : Obj), ∀ p ∈ [(b3, x), (b2, y), (b1, z)], w.heap.size ≤ p.1 := fun x y z p hp => by
    simp only [List.mem_cons, List.mem_nil_iff, or_false] at hp
    rcases hp with rfl | rfl | rfl <;> assumption
  simp (disch := omega) only [push_cast, Nat.reduceEqDiff]
  refine callV en_35 (callX_is (fun w' hw' => small_walk w' w'.heap.size [f] (some ⟨b3, 0, none⟩) 1 300 (Nat.le_refl _) (.cons (hw'.lt (.head _)) hA.hc hnm hA.hc2 (At.of_own hw' (.head _) rfl) ((hA.hr.sy hlo hw' (fun p hp => Nat.le_trans hlo (hL _ _ _ p hp))).weaken (Nat.le_trans hlo hw'.size)) (.nil _)) (by simp) (by omega) (by omega) (by omega)) ?_)
  simp (disch := omega) only [push_cast, Nat.reduceEqDiff]
  rw [V_cond]
  simp (disch := omega) only [push_cast, Nat.reduceEqDiff]
  rcases hfew : decide (0 ≤ leftL [f] 300) with _ | _
  · refine condX_b (fun hm => by cases hm) (fun _ => ?_)
    simp (disch := omega) only [push_cast, Nat.reduceEqDiff]
    refine loadX_agg sh_26 mem2 rfl rfl ?_
    simp (disch := omega) only [push_cast, Nat.reduceEqDiff]
    refine storeX 1 rfl Siz.eq rfl rfl (by simp [Value.oneCell']) (by simp) ?_
    simp (disch := omega) only [push_cast, Nat.reduceEqDiff]
    refine loadX_agg sh_26 mem1 rfl rfl ?_
    simp (disch := omega) only [push_cast, Nat.reduceEqDiff]
    exact fun w' hw' => ⟨_, [], rfl, by simpa using hw'.end (hL _ _ _), by simp, a, c, by unfold fewP; rw [hfew], .inr ⟨hfew, rfl, rfl, rfl⟩⟩
  · refine condX_b (fun _ => ?_) (fun hm => by cases hm)
    simp (disch := omega) only [push_cast, Nat.reduceEqDiff]
    refine loadX_agg sh_26 mem2 rfl rfl ?_
    simp (disch := omega) only [push_cast, Nat.reduceEqDiff]
    refine callV en_36 (callX_newR (fun w' hw' => copyField_walk w' lo f a c (Nat.le_trans hlo hw'.size) (hA.hr.sy hlo hw' (fun p hp => Nat.le_trans hlo (hL _ _ _ p hp))) hnm hA.hc hA.hc2 (few_wide hfew)) (fun u M hM hMn hu => ?_))
    obtain ⟨a', rfl, hO⟩ := hu
    simp (disch := omega) only [push_cast, Nat.reduceEqDiff, Fld.cells]
    refine storeX 1 rfl Siz.eq rfl rfl (by simp [Value.oneCell']) (by simp) ?_
    simp (disch := omega) only [push_cast, Nat.reduceEqDiff]
    refine loadX_agg sh_26 mem1 rfl rfl ?_
    simp (disch := omega) only [push_cast, Nat.reduceEqDiff]
    exact fun w' hw' => ⟨_, M, rfl, hw'.left (A := [_, _, _]) (hL _ _ _), hM, a', f.sub.length, by unfold fewP; rw [hfew], .inl ⟨hfew, hO⟩⟩
end Go.Proofs.YtjkogfiidhjpcaaDoor
