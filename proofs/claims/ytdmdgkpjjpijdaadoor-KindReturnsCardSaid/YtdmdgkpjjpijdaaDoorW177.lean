/- YtdmdgkpjjpijdaaDoor: walks, part 60: the reference's EqField of a field and the same field elsewhere. -/
import Derived.Test.YtdmdgkpjjpijdaaDoorW30
import Derived.Test.YtdmdgkpjjpijdaaDoorKo
import Derived.Test.YtdmdgkpjjpijdaaDoorKs
import Derived.Test.YtdmdgkpjjpijdaaDoorW8
namespace Go.Proofs.YtdmdgkpjjpijdaaDoor
open Go Go.K
set_option maxRecDepth 100000
set_option linter.unusedVariables false
set_option linter.unusedSimpArgs false
set_option maxHeartbeats 1000000
structure SnE (w : World) (b2 b3 : Nat) (f g : Fld) (a a' : Option Addr) (c c' : Nat) (wb : World) (e : Env) (ds : List Deferred) (L : Own) : Prop where
  hw : wb = w
  hds : ds = []
  h2 : e 2 = .pointer (some ⟨b2, 0, none⟩)
  h3 : e 3 = .pointer (some ⟨b3, 0, none⟩)
  o : ∃ b5 b6, e 5 = .pointer (some ⟨b5, 0, none⟩) ∧ e 6 = .pointer (some ⟨b6, 0, none⟩) ∧ w.heap.size ≤ b5 ∧ w.heap.size ≤ b6 ∧ L = [(b6, Obj.cells #[i64 g.k, i64 g.wd, i64 g.id, i64 g.ix, .slice a' g.sub.length c'] 39 (0, 0)), (b5, Obj.cells #[i64 f.k, i64 f.wd, i64 f.id, i64 f.ix, .slice a f.sub.length c] 39 (0, 0)), (b3, Obj.cells #[str g.nm, .bool g.nl, i64 g.k, i64 g.wd, i64 g.id, i64 g.ix, .slice a' g.sub.length c'] 41 (0, 0)), (b2, Obj.cells #[str f.nm, .bool f.nl, i64 f.k, i64 f.wd, i64 f.id, i64 f.ix, .slice a f.sub.length c] 41 (0, 0))]
abbrev fldV (f : Fld) (a : Option Addr) (c : Nat) : Value := .agg #[str f.nm, .bool f.nl, i64 f.k, i64 f.wd, i64 f.id, i64 f.ix, .slice a f.sub.length c]
def EqFsOK (n : Nat) : Prop := ∀ (w : World) (lo lo' : Nat) (l : List Fld) (a a' : Option Addr) (c c' : Nat), lo ≤ w.heap.size → lo' ≤ w.heap.size → Rd w lo a l → Rd w lo' a' l → l.length ≤ 9223372036854775807 → SizeOf.sizeOf l < n → Calls Tryd.prog 32 #[.slice a l.length c, .slice a' l.length c'] w (Rets w (Is (.bool true)))
def EqFOK (n : Nat) : Prop := ∀ (w : World) (lo lo' : Nat) (f : Fld) (a a' : Option Addr) (c c' : Nat), lo ≤ w.heap.size → lo' ≤ w.heap.size → Rd w lo a f.sub → Rd w lo' a' f.sub → f.sub.length ≤ 9223372036854775807 → SizeOf.sizeOf f < n → Calls Tryd.prog 13 #[fldV f a c, fldV f a' c'] w (Rets w (Is (.bool true)))
theorem eqField_step (n : Nat) (hF : EqFsOK n) : EqFOK (n + 1) := by
  intro w lo lo' f a a' c c' hlo hlo' hr hr' hl hsz
  refine enterT (args := [fldV f a c, fldV f a' c']) Tryd.func13 rfl Tryd.ntmps13 (congrArg Array.toList Tryd.results13) (by kernel_rfl) (by simp) (Sy.refl w) ?_
  simp (disch := omega) only [push_cast, Nat.reduceEqDiff, fldV]
  refine newI (fun b2 hb2 hn2 => ?_)
  simp (disch := omega) only [push_cast, Nat.reduceEqDiff]
  refine newI (fun b3 hb3 hn3 => ?_)
  simp (disch := omega) only [push_cast, Nat.reduceEqDiff]
  repeat' (first | ((first | refine guardX_t rfl (fun h => ?_) (fun h => ?_) | refine guardX_f rfl (fun h => ?_) (fun h => ?_) | refine condX_d (fun h => ?_) (fun h => ?_) | (refine guardX_bt rfl (fun h => ?_) (fun h => ?_) <;> (try subst h)) | (refine guardX_bf rfl (fun h => ?_) (fun h => ?_) <;> (try subst h)) | (refine condX_b (fun h => ?_) (fun h => ?_) <;> (try subst h)) | refine ldOne Shp.eq (by (first | exact mem0 | exact mem1 | exact mem2 | exact mem3 | exact mem4 | exact mem5)) rfl ?_ | refine loadX_agg Shp.eq (by (first | exact mem0 | exact mem1 | exact mem2 | exact mem3 | exact mem4 | exact mem5)) rfl rfl ?_ | refine newI (fun b hb hn => ?_) | refine storeX 0 rfl Siz.eq rfl rfl (by simp [Value.oneCell']) (by simp) ?_ | refine storeX 1 rfl Siz.eq rfl rfl (by simp [Value.oneCell']) (by simp) ?_ | refine storeX 2 rfl Siz.eq rfl rfl (by simp [Value.oneCell']) (by simp) ?_ | refine storeX 3 rfl Siz.eq rfl rfl (by simp [Value.oneCell']) (by simp) ?_ | refine storeX 4 rfl Siz.eq rfl rfl (by simp [Value.oneCell']) (by simp) ?_ | refine storeX 5 rfl Siz.eq rfl rfl (by simp [Value.oneCell']) (by simp) ?_ | refine storeX 6 rfl Siz.eq rfl rfl (by simp [Value.oneCell']) (by simp) ?_) <;> simp (disch := omega) only [push_cast, Nat.reduceEqDiff]))
  have hL : ∀ p ∈ [(b3, Obj.cells #[str f.nm, .bool f.nl, i64 f.k, i64 f.wd, i64 f.id, i64 f.ix, .slice a' f.sub.length c'] 41 (0, 0)), (b2, Obj.cells #[str f.nm, .bool f.nl, i64 f.k, i64 f.wd, i64 f.id, i64 f.ix, .slice a f.sub.length c] 41 (0, 0))], w.heap.size ≤ p.1 := by
    intro p hp
    simp only [List.mem_cons, List.mem_nil_iff, or_false] at hp
    rcases hp with rfl | rfl <;> assumption
  refine cutW (SnE w b2 b3 f f a a' c c') ?_ ?_
  · refine freeTs [0, 1, 2, 3] [4, 5, 6, 7] [[4, 5, 6, 7], [5, 4, 6, 7]] [(b3, Obj.cells #[str f.nm, .bool f.nl, i64 f.k, i64 f.wd, i64 f.id, i64 f.ix, .slice a' f.sub.length c'] 41 (0, 0)), (b2, Obj.cells #[str f.nm, .bool f.nl, i64 f.k, i64 f.wd, i64 f.id, i64 f.ix, .slice a f.sub.length c] 41 (0, 0))] (by kernel_rfl) mixed (by kernel_rfl) (by kernel_rfl) (fun h => by cases h) (fun w hw => hw) ?_
    simp (disch := omega) only [push_cast, Nat.reduceEqDiff]
    refine loadX_agg Shp.eq (.tail _ (.head _)) rfl rfl ?_
    simp (disch := omega) only [push_cast, Nat.reduceEqDiff]
    refine loadX_agg Shp.eq (.head _) rfl rfl ?_
    simp (disch := omega) only [push_cast, Nat.reduceEqDiff]
    have st1 : ∀ x : Nat × Obj, w.heap.size ≤ x.1 → Stab w (x :: [(b3, Obj.cells #[str f.nm, .bool f.nl, i64 f.k, i64 f.wd, i64 f.id, i64 f.ix, .slice a' f.sub.length c'] 41 (0, 0)), (b2, Obj.cells #[str f.nm, .bool f.nl, i64 f.k, i64 f.wd, i64 f.id, i64 f.ix, .slice a f.sub.length c] 41 (0, 0))]) [(b3, Obj.cells #[str f.nm, .bool f.nl, i64 f.k, i64 f.wd, i64 f.id, i64 f.ix, .slice a' f.sub.length c'] 41 (0, 0)), (b2, Obj.cells #[str f.nm, .bool f.nl, i64 f.k, i64 f.wd, i64 f.id, i64 f.ix, .slice a f.sub.length c] 41 (0, 0))] := fun x hx => Stab.of (.cons _ (List.Sublist.refl _)) (fun p hp => by
      rcases List.mem_cons.1 hp with rfl | hp
      · exact hx
      · exact hL p hp)
    have st2 : ∀ x y : Nat × Obj, w.heap.size ≤ x.1 → w.heap.size ≤ y.1 → Stab w (x :: y :: [(b3, Obj.cells #[str f.nm, .bool f.nl, i64 f.k, i64 f.wd, i64 f.id, i64 f.ix, .slice a' f.sub.length c'] 41 (0, 0)), (b2, Obj.cells #[str f.nm, .bool f.nl, i64 f.k, i64 f.wd, i64 f.id, i64 f.ix, .slice a f.sub.length c] 41 (0, 0))]) [(b3, Obj.cells #[str f.nm, .bool f.nl, i64 f.k, i64 f.wd, i64 f.id, i64 f.ix, .slice a' f.sub.length c'] 41 (0, 0)), (b2, Obj.cells #[str f.nm, .bool f.nl, i64 f.k, i64 f.wd, i64 f.id, i64 f.ix, .slice a f.sub.length c] 41 (0, 0))] := fun x y hx hy => Stab.of (.cons _ (.cons _ (List.Sublist.refl _))) (fun p hp => by
      rcases List.mem_cons.1 hp with rfl | hp
      · exact hx
      · rcases List.mem_cons.1 hp with rfl | hp
        · exact hy
        · exact hL p hp)
    intro t ht
    simp only [List.mem_cons, List.mem_nil_iff, or_false] at ht
    rcases ht with rfl | rfl
    · simp (disch := omega) only [push_cast, Nat.reduceEqDiff]
      refine newI (fun b5 hb5 hn5 => ?_)
      simp (disch := omega) only [push_cast, Nat.reduceEqDiff]
      refine ⟨st1 _ hb5, newI (fun b6 hb6 hn6 => ?_)⟩
      simp (disch := omega) only [push_cast, Nat.reduceEqDiff]
      refine ⟨st2 _ _ hb6 hb5, storeX 1 rfl Siz.eq rfl rfl (by simp [Value.oneCell']) (by simp) ?_⟩
      simp (disch := omega) only [push_cast, Nat.reduceEqDiff]
      refine ⟨st2 _ _ hb6 hb5, storeX 0 rfl Siz.eq rfl rfl (by simp [Value.oneCell']) (by simp) ?_⟩
      simp (disch := omega) only [push_cast, Nat.reduceEqDiff]
      exact ⟨st2 _ _ hb6 hb5, _, fun w hw => hw, rfl, rfl, rfl, rfl, b5, b6, rfl, rfl, hb5, hb6, rfl⟩
    · simp (disch := omega) only [push_cast, Nat.reduceEqDiff]
      refine newI (fun b6 hb6 hn6 => ?_)
      simp (disch := omega) only [push_cast, Nat.reduceEqDiff]
      refine ⟨st1 _ hb6, newI (fun b5 hb5 hn5 => ?_)⟩
      simp (disch := omega) only [push_cast, Nat.reduceEqDiff]
      refine ⟨st2 _ _ hb5 hb6, storeX 0 rfl Siz.eq rfl rfl (by simp [Value.oneCell']) (by simp) ?_⟩
      simp (disch := omega) only [push_cast, Nat.reduceEqDiff]
      refine ⟨st2 _ _ hb5 hb6, storeX 1 rfl Siz.eq rfl rfl (by simp [Value.oneCell']) (by simp) ?_⟩
      simp (disch := omega) only [push_cast, Nat.reduceEqDiff]
      exact ⟨st2 _ _ hb5 hb6, _, fun w hw => hw.perm (.swap _ _ _), rfl, rfl, rfl, rfl, b5, b6, rfl, rfl, hb5, hb6, rfl⟩
  · rintro wb e ds L ⟨rfl, rfl, e2, e3, ⟨b5, b6, e5, e6, hb5, hb6, rfl⟩⟩
    have hL4 : ∀ p ∈ [(b6, Obj.cells #[i64 f.k, i64 f.wd, i64 f.id, i64 f.ix, .slice a' f.sub.length c'] 39 (0, 0)), (b5, Obj.cells #[i64 f.k, i64 f.wd, i64 f.id, i64 f.ix, .slice a f.sub.length c] 39 (0, 0)), (b3, Obj.cells #[str f.nm, .bool f.nl, i64 f.k, i64 f.wd, i64 f.id, i64 f.ix, .slice a' f.sub.length c'] 41 (0, 0)), (b2, Obj.cells #[str f.nm, .bool f.nl, i64 f.k, i64 f.wd, i64 f.id, i64 f.ix, .slice a f.sub.length c] 41 (0, 0))], wb.heap.size ≤ p.1 := by
      intro p hp
      simp only [List.mem_cons, List.mem_nil_iff, or_false] at hp
      rcases hp with rfl | rfl | rfl | rfl <;> assumption
    have hszs : SizeOf.sizeOf f.sub < n := by
      have : SizeOf.sizeOf f.sub < SizeOf.sizeOf f := by cases f; simp only [Fld.sub, Fld.mk.sizeOf_spec]; omega
      omega
    simp (disch := omega) only [push_cast, Nat.reduceEqDiff, e2, e3, e5, e6, decide_true, beq_self_eq_true]
    repeat' (first | (refine ldOne Shp.eq (by (first | exact mem0 | exact mem1 | exact mem2 | exact mem3 | exact mem4 | exact mem5)) rfl ?_; simp (disch := omega) only [push_cast, Nat.reduceEqDiff, e2, e3, e5, e6, decide_true, beq_self_eq_true]))
    refine callV en_32 (callX_is (fun w' hw' => hF w' lo lo' f.sub a a' c c' (Nat.le_trans hlo hw'.size) (Nat.le_trans hlo' hw'.size) (hr.sy hlo hw' (fun p hp => Nat.le_trans hlo (hL4 p hp))) (hr'.sy hlo' hw' (fun p hp => Nat.le_trans hlo' (hL4 p hp))) hl hszs) ?_)
    simp (disch := omega) only [push_cast, Nat.reduceEqDiff, e2, e3, e5, e6]
    exact finIs hL4 rfl
structure EqFsI (w0 : World) (l : List Fld) (a a' : Option Addr) (c c' : Nat) (i : Nat) (wb : World) (e : Env) (ds : List Deferred) (L : Own) : Prop where
  hw : wb = w0
  hds : ds = []
  o : L = []
  il : i ≤ l.length
  h0 : e 0 = .slice a l.length c
  h1 : e 1 = .slice a' l.length c'
  h12 : e 12 = i64 l.length
  h13 : e 13 = i64 i
theorem eqFields_step (n : Nat) (hF : EqFOK n) : EqFsOK (n + 1) := by
  intro w lo lo' l a a' c c' hlo hlo' hr hr' hl hsz
  refine enterT (args := [.slice a l.length c, .slice a' l.length c']) Tryd.func32 rfl Tryd.ntmps32 (congrArg Array.toList Tryd.results32) (by kernel_rfl) (by simp) (Sy.refl w) ?_
  simp (disch := omega) only [push_cast, Nat.reduceEqDiff, ne_eq, not_true_eq_false, decide_false]
  rw [V_cond]
  simp (disch := omega) only [push_cast, Nat.reduceEqDiff]
  repeat' (first | ((first | refine guardX_t rfl (fun h => ?_) (fun h => ?_) | refine guardX_f rfl (fun h => ?_) (fun h => ?_) | refine condX_d (fun h => ?_) (fun h => ?_) | (refine guardX_bt rfl (fun h => ?_) (fun h => ?_) <;> (try subst h)) | (refine guardX_bf rfl (fun h => ?_) (fun h => ?_) <;> (try subst h)) | (refine condX_b (fun h => ?_) (fun h => ?_) <;> (try subst h)) | refine ldOne Shp.eq (by (first | exact mem0 | exact mem1 | exact mem2 | exact mem3 | exact mem4 | exact mem5)) rfl ?_ | refine loadX_agg Shp.eq (by (first | exact mem0 | exact mem1 | exact mem2 | exact mem3 | exact mem4 | exact mem5)) rfl rfl ?_ | refine newI (fun b hb hn => ?_) | refine storeX 0 rfl Siz.eq rfl rfl (by simp [Value.oneCell']) (by simp) ?_ | refine storeX 1 rfl Siz.eq rfl rfl (by simp [Value.oneCell']) (by simp) ?_ | refine storeX 2 rfl Siz.eq rfl rfl (by simp [Value.oneCell']) (by simp) ?_ | refine storeX 3 rfl Siz.eq rfl rfl (by simp [Value.oneCell']) (by simp) ?_ | refine storeX 4 rfl Siz.eq rfl rfl (by simp [Value.oneCell']) (by simp) ?_ | refine storeX 5 rfl Siz.eq rfl rfl (by simp [Value.oneCell']) (by simp) ?_ | refine storeX 6 rfl Siz.eq rfl rfl (by simp [Value.oneCell']) (by simp) ?_) <;> simp (disch := omega) only [push_cast, Nat.reduceEqDiff]))
  rw [V_block]
  simp (disch := omega) only [push_cast, Nat.reduceEqDiff]
  refine loopT (G := Nat) (EqFsI w l a a' c c') (fun i => l.length - i) 0 (by kernel_rfl) ⟨rfl, rfl, rfl, by omega, rfl, rfl, rfl, rfl⟩ ?_
  rintro i wb e ds L ⟨rfl, rfl, rfl, hil, h0, h1, h12, h13⟩
  simp (disch := omega) only [push_cast, Nat.reduceEqDiff, h0, h1, h12, h13]
  rw [V_cond]
  simp (disch := omega) only [push_cast, Nat.reduceEqDiff, h0, h1, h12, h13]
  refine condX_d (fun hlt => ?_) (fun hge => ?_)
  · obtain ⟨f, hf⟩ : ∃ f, l[i]? = some f := ⟨_, List.getElem?_eq_getElem (by omega)⟩
    have hne : ∃ f l', l = f :: l' := List.exists_cons_of_ne_nil (by rintro rfl; simp at hf)
    obtain ⟨b, off, rfl, hb⟩ : ∃ b off, a = some ⟨b, off, none⟩ ∧ b < lo := by
      obtain ⟨f0, l0, rfl⟩ := hne
      exact hr.some_of
    obtain ⟨b', off', rfl, hb'⟩ : ∃ b off, a' = some ⟨b, off, none⟩ ∧ b < lo' := by
      obtain ⟨f0, l0, rfl⟩ := hne
      exact hr'.some_of
    have hszf : SizeOf.sizeOf f < n := by
      have := List.sizeOf_lt_of_mem (List.mem_of_getElem? hf)
      omega
    obtain ⟨fa, fc, x1, x2, x3, x4, x5, x6⟩ := hr.get i hf
    obtain ⟨fa', fc', y1, y2, y3, y4, y5, y6⟩ := hr'.get i hf
    simp (disch := omega) only [push_cast, Nat.reduceEqDiff, h0, h1, h12, h13]
    rw [V_block]
    simp (disch := omega) only [push_cast, Nat.reduceEqDiff, h0, h1, h12, h13]
    refine drawQT (by kernel_rfl) (by kernel_rfl) mixed (by kernel_rfl) ?_
    simp (disch := omega) only [push_cast, Nat.reduceEqDiff, h0, h1, h12, h13]
    refine ldAggF Shp.eq x2 rfl (by simp) ?_
    simp (disch := omega) only [push_cast, Nat.reduceEqDiff, h0, h1, h12, h13, Fld.cells]
    refine ldAggF Shp.eq y2 rfl (by simp) ?_
    simp (disch := omega) only [push_cast, Nat.reduceEqDiff, h0, h1, h12, h13, Fld.cells]
    refine qcallV en_13 (qcallX_is _ (fun w' hw' => hF w' lo lo' f fa fa' fc fc' (Nat.le_trans hlo hw'.size) (Nat.le_trans hlo' hw'.size) (x6.sy hlo hw' (by simp)) (y6.sy hlo' hw' (by simp)) (by omega) hszf) ?_)
    simp (disch := omega) only [push_cast, Nat.reduceEqDiff, h0, h1, h12, h13]
    rw [V_cond]
    simp (disch := omega) only [push_cast, Nat.reduceEqDiff, h0, h1, h12, h13]
    refine condX_b (fun hm => by cases hm) (fun _ => ?_)
    simp (disch := omega) only [push_cast, Nat.reduceEqDiff, h0, h1, h12, h13]
    exact ⟨i + 1, ⟨rfl, rfl, rfl, by omega, h0, h1, h12, by simp only [upd]; rfl⟩, by omega⟩
  · simp (disch := omega) only [push_cast, Nat.reduceEqDiff, h0, h1, h12, h13]
    exact finIs (by simp) rfl
theorem eqs_ok : ∀ n, EqFsOK n ∧ EqFOK n
  | 0 => ⟨fun w lo lo' l a a' c c' _ _ _ _ _ h => by omega, fun w lo lo' f a a' c c' _ _ _ _ _ h => by omega⟩
  | n + 1 => ⟨eqFields_step n (eqs_ok n).2, eqField_step n (eqs_ok n).1⟩
theorem eqField_walk (w : World) (lo lo' : Nat) (f : Fld) (a a' : Option Addr) (c c' : Nat) (hlo : lo ≤ w.heap.size) (hlo' : lo' ≤ w.heap.size) (hr : Rd w lo a f.sub) (hr' : Rd w lo' a' f.sub) (hl : f.sub.length ≤ 9223372036854775807) : Calls Tryd.prog 13 #[fldV f a c, fldV f a' c'] w (Rets w (Is (.bool true))) :=
  (eqs_ok (SizeOf.sizeOf f + 1)).2 w lo lo' f a a' c c' hlo hlo' hr hr' hl (by omega)
theorem eqFields_walk (w : World) (lo lo' : Nat) (l : List Fld) (a a' : Option Addr) (c c' : Nat) (hlo : lo ≤ w.heap.size) (hlo' : lo' ≤ w.heap.size) (hr : Rd w lo a l) (hr' : Rd w lo' a' l) (hl : l.length ≤ 9223372036854775807) : Calls Tryd.prog 32 #[.slice a l.length c, .slice a' l.length c'] w (Rets w (Is (.bool true))) :=
  (eqs_ok (SizeOf.sizeOf l + 1)).1 w lo lo' l a a' c c' hlo hlo' hr hr' hl (by omega)
end Go.Proofs.YtdmdgkpjjpijdaaDoor
/- YtdmdgkpjjpijdaaDoor: walks, part 177: the reference's EqSchema of a schema and the same schema elsewhere. -/
namespace Go.K
open Go
def isStr : Option TypeDesc → Bool
  | some .string => true
  | _ => false
theorem isStr_spec {x : Option TypeDesc} (h : isStr x = true) : x = some .string := by
  unfold isStr at h
  split at h
  · rfl
  · cases h
/-- A struct of two texts. -/
def pairB (P : Program) (t : TypeId) : Bool := match P.underlying t with
  | some (.struct fs) => match fs.toList with
    | [f0, f1] => (f0.name != "_") && (f1.name != "_") && isStr (P.underlying f0.type) && isStr (P.underlying f1.type) && decide (f0.offset = 0) && decide (f1.offset = 1) && !P.stoodInHeld t && !P.eqGuardType P.depth t
    | _ => false
  | _ => false
theorem pairB_spec {P : Program} {t : TypeId} (h : pairB P t = true) : ∃ f0 f1 : Field, P.underlying t = some (.struct #[f0, f1]) ∧ (f0.name != "_") = true ∧ (f1.name != "_") = true ∧ P.underlying f0.type = some .string ∧ P.underlying f1.type = some .string ∧ f0.offset = 0 ∧ f1.offset = 1 ∧ P.stoodInHeld t = false ∧ P.eqGuardType P.depth t = false := by
  unfold pairB at h
  split at h
  · rename_i fs hu
    split at h
    · rename_i f0 f1 hf
      have e : fs = #[f0, f1] := Array.toList_inj.1 hf
      subst e
      simp only [Bool.and_eq_true, decide_eq_true_eq, Bool.not_eq_true'] at h
      obtain ⟨⟨⟨⟨⟨⟨⟨h1, h2⟩, h3⟩, h4⟩, h5⟩, h6⟩, h7⟩, h8⟩ := h
      exact ⟨f0, f1, hu, h1, h2, isStr_spec h3, isStr_spec h4, h5, h6, h7, h8⟩
    · cases h
  · cases h
/-- Two structs of two texts, compared. -/
theorem neq_pair {P : Program} {t : TypeId} {x y : Operand} {K : Value → Prop} (hB : pairB P t = true) (a b : List UInt8) :
    PureX P (binV .neq t x y (.agg #[str a, str b]) (.agg #[str a, str b])) (tag K) = K (.bool false) := px (fun w => by
  obtain ⟨f0, f1, hu, hn0, hn1, ht0, ht1, ho0, ho1, hs, hg⟩ := pairB_spec hB
  have h0 : ∀ (d : Nat) (ty : TypeId) (l : List UInt8), P.underlying ty = some .string → (Op.equalIn (d + 1) ty (str l) (str l)).run P w = .ok true w := fun d ty l h => by
    unfold Op.equalIn
    simp only [underlying, Sem.run_bind, run_program, Result.andThen_ok, h, Sem.run_pure, str]
    rw [show ((⟨l.toArray⟩ : ByteArray) == ⟨l.toArray⟩) = true from beq_self_eq_true l.toArray]
  have hp : ∀ (ty : TypeId) (cs : Array Value) (i : Nat) (v : Value), P.underlying ty = some .string → cs[i]? = some v → (part ty cs i).run P w = .ok v w := fun ty cs i v h hi => by
    simp [part, isAgg, underlying, h, hi]
  have h : (Op.equal t (.agg #[str a, str b]) (.agg #[str a, str b])).run P w = .ok true w := by
    show (Op.equalIn (9998 + 1 + 1) t (.agg #[str a, str b]) (.agg #[str a, str b])).run P w = _
    unfold Op.equalIn
    have n0 : f0.name ≠ "_" := by simpa using hn0
    have n1 : f1.name ≠ "_" := by simpa using hn1
    simp [underlying, hu, hs, n0, n1, ho0, ho1, hp f0.type #[str a, str b] 0 (str a) ht0 rfl, hp f1.type #[str a, str b] 1 (str b) ht1 rfl, h0 9998 f0.type a ht0, h0 9998 f1.type b ht1]
  have hg2 : (eqGuard .neq t x y (.agg #[str a, str b]) (.agg #[str a, str b])).run P w = .ok () w := by
    simp [eqGuard, hg]
  show ((do eqGuard .neq t x y (.agg #[str a, str b]) (.agg #[str a, str b]); (do pure (.bool (!(← Op.equal t (.agg #[str a, str b]) (.agg #[str a, str b]))))) : Sem Value)).run P w = _
  simp only [Sem.run_bind, Sem.run_pure, Result.andThen_ok, h, hg2]
  rfl) K
end Go.K
namespace Go.Proofs.YtdmdgkpjjpijdaaDoor
open Go Go.K
set_option maxRecDepth 100000
set_option linter.unusedVariables false
set_option linter.unusedSimpArgs false
set_option maxHeartbeats 4000000
theorem neq_note {x y : Operand} {K : Value → Prop} (a b : List UInt8) : PureX Tryd.prog (binV .neq 64 x y (.agg #[str a, str b]) (.agg #[str a, str b])) (tag K) = K (.bool false) :=
  neq_pair (by kernel_rfl) a b
structure EqScI (w0 : World) (b2 b3 : Nat) (nt : List NoteT) (na na' : Option Addr) (nc nc' : Nat) (L0 : Own) (i : Nat) (wb : World) (e : Env) (ds : List Deferred) (L : Own) : Prop where
  hw : wb = w0
  hds : ds = []
  o : L = L0
  il : i ≤ nt.length
  h2 : e 2 = .pointer (some ⟨b2, 0, none⟩)
  h3 : e 3 = .pointer (some ⟨b3, 0, none⟩)
  h23 : e 23 = i64 nt.length
  h24 : e 24 = i64 i
theorem eqSchema_walk (w : World) (lo lo' : Nat) (l : List Fld) (nt : List NoteT) (a a' : Option Addr) (c c' : Nat) (na na' : Option Addr) (nc nc' : Nat) (hlo : lo ≤ w.heap.size) (hlo' : lo' ≤ w.heap.size) (h : SchAt w lo a l c na nt nc) (h' : SchAt w lo' a' l c' na' nt nc') :
    Calls Tryd.prog 9 #[schV a l c na nt nc, schV a' l c' na' nt nc'] w (Rets w (Is (.bool true))) := by
  have hl : l.length ≤ 9223372036854775807 := Nat.le_trans h.hc h.hc2
  have hnl : nt.length ≤ 9223372036854775807 := Nat.le_trans h.hnc h.hnc2
  refine enterT (args := [schV a l c na nt nc, schV a' l c' na' nt nc']) Tryd.func9 rfl Tryd.ntmps9 (congrArg Array.toList Tryd.results9) (by kernel_rfl) (by simp) (Sy.refl w) ?_
  simp (disch := omega) only [push_cast, Nat.reduceEqDiff, schV]
  refine newI (fun b2 hb2 hn2 => ?_)
  simp (disch := omega) only [push_cast, Nat.reduceEqDiff]
  refine newI (fun b3 hb3 hn3 => ?_)
  simp (disch := omega) only [push_cast, Nat.reduceEqDiff]
  have hL : ∀ p ∈ [(b3, Obj.cells #[.slice a' l.length c', .slice na' nt.length nc'] 26 (0, 0)), (b2, Obj.cells #[.slice a l.length c, .slice na nt.length nc] 26 (0, 0))], w.heap.size ≤ p.1 := by
    intro p hp
    simp only [List.mem_cons, List.mem_nil_iff, or_false] at hp
    rcases hp with rfl | rfl <;> assumption
  repeat' (first | ((first | refine guardX_t rfl (fun h => ?_) (fun h => ?_) | refine guardX_f rfl (fun h => ?_) (fun h => ?_) | refine condX_d (fun h => ?_) (fun h => ?_) | (refine guardX_bt rfl (fun h => ?_) (fun h => ?_) <;> (try subst h)) | (refine guardX_bf rfl (fun h => ?_) (fun h => ?_) <;> (try subst h)) | (refine condX_b (fun h => ?_) (fun h => ?_) <;> (try subst h)) | refine ldOne Shp.eq (by (first | exact mem0 | exact mem1 | exact mem2 | exact mem3 | exact mem4 | exact mem5)) rfl ?_ | refine loadX_agg Shp.eq (by (first | exact mem0 | exact mem1 | exact mem2 | exact mem3 | exact mem4 | exact mem5)) rfl rfl ?_ | refine newI (fun b hb hn => ?_) | refine storeX 0 rfl Siz.eq rfl rfl (by simp [Value.oneCell']) (by simp) ?_ | refine storeX 1 rfl Siz.eq rfl rfl (by simp [Value.oneCell']) (by simp) ?_ | refine storeX 2 rfl Siz.eq rfl rfl (by simp [Value.oneCell']) (by simp) ?_ | refine storeX 3 rfl Siz.eq rfl rfl (by simp [Value.oneCell']) (by simp) ?_ | refine storeX 4 rfl Siz.eq rfl rfl (by simp [Value.oneCell']) (by simp) ?_ | refine storeX 5 rfl Siz.eq rfl rfl (by simp [Value.oneCell']) (by simp) ?_ | refine storeX 6 rfl Siz.eq rfl rfl (by simp [Value.oneCell']) (by simp) ?_) <;> simp (disch := omega) only [push_cast, Nat.reduceEqDiff]))
  refine callV en_32 (callX_is (fun w' hw' => eqFields_walk w' lo lo' l a a' c c' (Nat.le_trans hlo hw'.size) (Nat.le_trans hlo' hw'.size) (h.hr.sy hlo hw' (fun p hp => Nat.le_trans hlo (hL p hp))) (h'.hr.sy hlo' hw' (fun p hp => Nat.le_trans hlo' (hL p hp))) hl) ?_)
  simp (disch := omega) only [push_cast, Nat.reduceEqDiff, ne_eq, not_true_eq_false, decide_false, Bool.not_true]
  repeat' (first | ((first | refine guardX_t rfl (fun h => ?_) (fun h => ?_) | refine guardX_f rfl (fun h => ?_) (fun h => ?_) | refine condX_d (fun h => ?_) (fun h => ?_) | (refine guardX_bt rfl (fun h => ?_) (fun h => ?_) <;> (try subst h)) | (refine guardX_bf rfl (fun h => ?_) (fun h => ?_) <;> (try subst h)) | (refine condX_b (fun h => ?_) (fun h => ?_) <;> (try subst h)) | refine ldOne Shp.eq (by (first | exact mem0 | exact mem1 | exact mem2 | exact mem3 | exact mem4 | exact mem5)) rfl ?_ | refine loadX_agg Shp.eq (by (first | exact mem0 | exact mem1 | exact mem2 | exact mem3 | exact mem4 | exact mem5)) rfl rfl ?_ | refine newI (fun b hb hn => ?_) | refine storeX 0 rfl Siz.eq rfl rfl (by simp [Value.oneCell']) (by simp) ?_ | refine storeX 1 rfl Siz.eq rfl rfl (by simp [Value.oneCell']) (by simp) ?_ | refine storeX 2 rfl Siz.eq rfl rfl (by simp [Value.oneCell']) (by simp) ?_ | refine storeX 3 rfl Siz.eq rfl rfl (by simp [Value.oneCell']) (by simp) ?_ | refine storeX 4 rfl Siz.eq rfl rfl (by simp [Value.oneCell']) (by simp) ?_ | refine storeX 5 rfl Siz.eq rfl rfl (by simp [Value.oneCell']) (by simp) ?_ | refine storeX 6 rfl Siz.eq rfl rfl (by simp [Value.oneCell']) (by simp) ?_) <;> simp (disch := omega) only [push_cast, Nat.reduceEqDiff, ne_eq, not_true_eq_false, decide_false, Bool.not_true]))
  rw [V_cond]
  simp (disch := omega) only [push_cast, Nat.reduceEqDiff, ne_eq, not_true_eq_false, decide_false, Bool.not_true]
  repeat' (first | ((first | refine guardX_t rfl (fun h => ?_) (fun h => ?_) | refine guardX_f rfl (fun h => ?_) (fun h => ?_) | refine condX_d (fun h => ?_) (fun h => ?_) | (refine guardX_bt rfl (fun h => ?_) (fun h => ?_) <;> (try subst h)) | (refine guardX_bf rfl (fun h => ?_) (fun h => ?_) <;> (try subst h)) | (refine condX_b (fun h => ?_) (fun h => ?_) <;> (try subst h)) | refine ldOne Shp.eq (by (first | exact mem0 | exact mem1 | exact mem2 | exact mem3 | exact mem4 | exact mem5)) rfl ?_ | refine loadX_agg Shp.eq (by (first | exact mem0 | exact mem1 | exact mem2 | exact mem3 | exact mem4 | exact mem5)) rfl rfl ?_ | refine newI (fun b hb hn => ?_) | refine storeX 0 rfl Siz.eq rfl rfl (by simp [Value.oneCell']) (by simp) ?_ | refine storeX 1 rfl Siz.eq rfl rfl (by simp [Value.oneCell']) (by simp) ?_ | refine storeX 2 rfl Siz.eq rfl rfl (by simp [Value.oneCell']) (by simp) ?_ | refine storeX 3 rfl Siz.eq rfl rfl (by simp [Value.oneCell']) (by simp) ?_ | refine storeX 4 rfl Siz.eq rfl rfl (by simp [Value.oneCell']) (by simp) ?_ | refine storeX 5 rfl Siz.eq rfl rfl (by simp [Value.oneCell']) (by simp) ?_ | refine storeX 6 rfl Siz.eq rfl rfl (by simp [Value.oneCell']) (by simp) ?_) <;> simp (disch := omega) only [push_cast, Nat.reduceEqDiff, ne_eq, not_true_eq_false, decide_false, Bool.not_true]))
  rw [V_block]
  simp (disch := omega) only [push_cast, Nat.reduceEqDiff]
  refine loopT (G := Nat) (EqScI w b2 b3 nt na na' nc nc' _) (fun i => nt.length - i) 0 (by kernel_rfl) ⟨rfl, rfl, rfl, by omega, rfl, rfl, rfl, rfl⟩ ?_
  rintro i wb e ds L ⟨rfl, rfl, rfl, hil, h2, h3, h23, h24⟩
  simp (disch := omega) only [push_cast, Nat.reduceEqDiff, h2, h3, h23, h24]
  rw [V_cond]
  simp (disch := omega) only [push_cast, Nat.reduceEqDiff, h2, h3, h23, h24]
  refine condX_d (fun hlt => ?_) (fun hge => ?_)
  · obtain ⟨x, hx⟩ : ∃ x, nt[i]? = some x := ⟨_, List.getElem?_eq_getElem (by omega)⟩
    rcases h.hn with h0 | ⟨bn, off, rfl, hbn, hat⟩
    · rw [h0] at hx; simp at hx
    rcases h'.hn with h0 | ⟨bn', off', rfl, hbn', hat'⟩
    · rw [h0] at hx; simp at hx
    obtain ⟨x1, x2, x3⟩ := hat i x hx
    obtain ⟨y1, y2, y3⟩ := hat' i x hx
    simp (disch := omega) only [push_cast, Nat.reduceEqDiff, h2, h3, h23, h24]
    rw [V_block]
    simp (disch := omega) only [push_cast, Nat.reduceEqDiff, h2, h3, h23, h24]
    refine drawQT (by kernel_rfl) (by kernel_rfl) mixed (by kernel_rfl) ?_
    simp (disch := omega) only [push_cast, Nat.reduceEqDiff, h2, h3, h23, h24]
    repeat' (first | ((first | refine guardX_t rfl (fun h => ?_) (fun h => ?_) | refine guardX_f rfl (fun h => ?_) (fun h => ?_) | refine condX_d (fun h => ?_) (fun h => ?_) | (refine guardX_bt rfl (fun h => ?_) (fun h => ?_) <;> (try subst h)) | (refine guardX_bf rfl (fun h => ?_) (fun h => ?_) <;> (try subst h)) | (refine condX_b (fun h => ?_) (fun h => ?_) <;> (try subst h)) | refine ldOne Shp.eq (by (first | exact mem0 | exact mem1 | exact mem2 | exact mem3 | exact mem4 | exact mem5)) rfl ?_ | refine loadX_agg Shp.eq (by (first | exact mem0 | exact mem1 | exact mem2 | exact mem3 | exact mem4 | exact mem5)) rfl rfl ?_ | refine newI (fun b hb hn => ?_) | refine storeX 0 rfl Siz.eq rfl rfl (by simp [Value.oneCell']) (by simp) ?_ | refine storeX 1 rfl Siz.eq rfl rfl (by simp [Value.oneCell']) (by simp) ?_ | refine storeX 2 rfl Siz.eq rfl rfl (by simp [Value.oneCell']) (by simp) ?_ | refine storeX 3 rfl Siz.eq rfl rfl (by simp [Value.oneCell']) (by simp) ?_ | refine storeX 4 rfl Siz.eq rfl rfl (by simp [Value.oneCell']) (by simp) ?_ | refine storeX 5 rfl Siz.eq rfl rfl (by simp [Value.oneCell']) (by simp) ?_ | refine storeX 6 rfl Siz.eq rfl rfl (by simp [Value.oneCell']) (by simp) ?_) <;> simp (disch := omega) only [push_cast, Nat.reduceEqDiff, h2, h3, h23, h24]))
    refine ldAggF Shp.eq x3 rfl (out_of (fun p hp => Nat.lt_of_lt_of_le (Nat.lt_of_lt_of_le hbn hlo) (hL p hp))) ?_
    simp (disch := omega) only [push_cast, Nat.reduceEqDiff, h2, h3, h23, h24]
    repeat' (first | ((first | refine guardX_t rfl (fun h => ?_) (fun h => ?_) | refine guardX_f rfl (fun h => ?_) (fun h => ?_) | refine condX_d (fun h => ?_) (fun h => ?_) | (refine guardX_bt rfl (fun h => ?_) (fun h => ?_) <;> (try subst h)) | (refine guardX_bf rfl (fun h => ?_) (fun h => ?_) <;> (try subst h)) | (refine condX_b (fun h => ?_) (fun h => ?_) <;> (try subst h)) | refine ldOne Shp.eq (by (first | exact mem0 | exact mem1 | exact mem2 | exact mem3 | exact mem4 | exact mem5)) rfl ?_ | refine loadX_agg Shp.eq (by (first | exact mem0 | exact mem1 | exact mem2 | exact mem3 | exact mem4 | exact mem5)) rfl rfl ?_ | refine newI (fun b hb hn => ?_) | refine storeX 0 rfl Siz.eq rfl rfl (by simp [Value.oneCell']) (by simp) ?_ | refine storeX 1 rfl Siz.eq rfl rfl (by simp [Value.oneCell']) (by simp) ?_ | refine storeX 2 rfl Siz.eq rfl rfl (by simp [Value.oneCell']) (by simp) ?_ | refine storeX 3 rfl Siz.eq rfl rfl (by simp [Value.oneCell']) (by simp) ?_ | refine storeX 4 rfl Siz.eq rfl rfl (by simp [Value.oneCell']) (by simp) ?_ | refine storeX 5 rfl Siz.eq rfl rfl (by simp [Value.oneCell']) (by simp) ?_ | refine storeX 6 rfl Siz.eq rfl rfl (by simp [Value.oneCell']) (by simp) ?_) <;> simp (disch := omega) only [push_cast, Nat.reduceEqDiff, h2, h3, h23, h24]))
    refine ldAggF Shp.eq y3 rfl (out_of (fun p hp => Nat.lt_of_lt_of_le (Nat.lt_of_lt_of_le hbn' hlo') (hL p hp))) ?_
    simp (disch := omega) only [push_cast, Nat.reduceEqDiff, h2, h3, h23, h24, neq_note]
    rw [V_cond]
    simp (disch := omega) only [push_cast, Nat.reduceEqDiff, h2, h3, h23, h24]
    exact ⟨i + 1, ⟨rfl, rfl, rfl, by omega, h2, h3, h23, by simp only [upd]; rfl⟩, by omega⟩
  · simp (disch := omega) only [push_cast, Nat.reduceEqDiff, h2, h3, h23, h24]
    exact finIs hL rfl
end Go.Proofs.YtdmdgkpjjpijdaaDoor
