/- YtgbafmjgfbgeoaaDoor: walks, part 61: a list of fields copied, those within too: new memory. -/
import Derived.Test.YtgbafmjgfbgeoaaDoorW55
import Derived.Test.YtgbafmjgfbgeoaaDoorW37
import Derived.Test.YtgbafmjgfbgeoaaDoorW116
namespace Go.Proofs.YtgbafmjgfbgeoaaDoor
open Go Go.K
set_option maxRecDepth 100000
set_option linter.unusedVariables false
set_option linter.unusedSimpArgs false
set_option maxHeartbeats 1000000
/-- The cells of a list of fields, whose children lie in these blocks alone. -/
def FldsM (M : Own) : List Fld → List Value → Prop
  | [], cs => cs = []
  | f :: l, cs => ∃ a c r, cs = f.cells a c ++ r ∧ f.sub.length ≤ c ∧ f.nm.length ≤ 9223372036854775807 ∧ c ≤ 9223372036854775807 ∧ RdX (fun w => Held w M) a f.sub ∧ FldsM M l r
theorem FldsM.toC {M : Own} {w : World} (hw : Held w M) : ∀ {l : List Fld} {cs : List Value}, FldsM M l cs → FldsC w w.heap.size l cs
  | [], _, h => h
  | f :: l, cs, ⟨a, c, r, h1, h2, h3, h4, h5, h6⟩ => ⟨a, c, r, h1, h2, h3, h4, h5.toRd hw, FldsM.toC hw h6⟩
theorem FldsM.mono {M M' : Own} (h : ∀ p ∈ M, p ∈ M') : ∀ {l : List Fld} {cs : List Value}, FldsM M l cs → FldsM M' l cs
  | [], _, hx => hx
  | f :: l, cs, ⟨a, c, r, h1, h2, h3, h4, h5, h6⟩ => ⟨a, c, r, h1, h2, h3, h4, h5.mono fun w hw p hp => hw p (h p hp), FldsM.mono h h6⟩
theorem FldsM.append {M : Own} {m : List Fld} {ds : List Value} (hd : FldsM M m ds) : ∀ {l : List Fld} {cs : List Value}, FldsM M l cs → FldsM M (l ++ m) (cs ++ ds)
  | [], _, h => by cases h; exact hd
  | f :: l, cs, ⟨a, c, r, h1, h2, h3, h4, h5, h6⟩ => ⟨a, c, r ++ ds, by rw [h1, List.append_assoc], h2, h3, h4, h5, FldsM.append hd h6⟩
/-- A copy: a list of fields that lies in these blocks alone. -/
def CopyS (v : Value) (M : Own) (l : List Fld) : Prop := ∃ a c xs, v = .slice a l.length c ∧ l.length ≤ c ∧ c ≤ 9223372036854775807 ∧ FldsM M l xs ∧ xs.length = l.length * 7 ∧ (l = [] ∨ ∃ b cs ty, a = some ⟨b, 0, none⟩ ∧ (b, Obj.cells (List.toArray cs) ty (0, 0)) ∈ M ∧ cs.take (l.length * 7) = xs)
theorem copy_rd {M : Own} {a : Option Addr} {l : List Fld} {xs : List Value} (h1 : FldsM M l xs) (hl : xs.length = l.length * 7) (h2 : l = [] ∨ ∃ b cs ty, a = some ⟨b, 0, none⟩ ∧ (b, Obj.cells (List.toArray cs) ty (0, 0)) ∈ M ∧ cs.take (l.length * 7) = xs) : ∀ w, Held w M → Rd w w.heap.size a l := fun w hw => by
  rcases h2 with rfl | ⟨b, cs, ty, rfl, hm, ht⟩
  · exact .nil _
  · have hb := hw _ hm
    refine FldsC.toRd (Nat.le_refl _) (Array.getElem?_eq_some_iff.1 hb).1 (h1.toC hw) ⟨_, _, _, hb, ?_⟩
    rw [List.drop_zero, hl]
    exact ht
theorem FldsM.toX {M : Own} {b : Nat} : ∀ {l : List Fld} {cs : List Value} {off : Nat}, FldsM M l cs → (∀ w, Held w M → At w b off cs) → RdX (fun w => Held w M) (some ⟨b, off, none⟩) l
  | [], _, _, _, _ => .nil _
  | f :: l, cs, off, ⟨a, c, r, h1, h2, h3, h4, h5, h6⟩, hat => by
    subst h1
    exact .cons h2 h3 h4 (fun w hw => (hat w hw).sub 0 (f.cells a c) (by simp [Fld.cells])) h5 (FldsM.toX h6 fun w hw => (hat w hw).sub 7 r (by simp [Fld.cells]))
theorem copy_rdx {M : Own} {a : Option Addr} {l : List Fld} {xs : List Value} (h1 : FldsM M l xs) (hl : xs.length = l.length * 7) (h2 : l = [] ∨ ∃ b cs ty, a = some ⟨b, 0, none⟩ ∧ (b, Obj.cells (List.toArray cs) ty (0, 0)) ∈ M ∧ cs.take (l.length * 7) = xs) : RdX (fun w => Held w M) a l := by
  rcases h2 with rfl | ⟨b, cs, ty, rfl, hm, ht⟩
  · exact .nil _
  · refine h1.toX fun w hw => ⟨_, _, _, hw _ hm, ?_⟩
    rw [List.drop_zero, hl]
    exact ht
theorem clip_walk (w : World) (a : Option Addr) (n c : Nat) (hn : n ≤ c) (hc : c ≤ 9223372036854775807) : Calls Tryd.prog 61 #[.slice a n c] w (Rets w (Is (.slice a n n))) := by
  refine enterT (args := [.slice a n c]) Tryd.func61 rfl Tryd.ntmps61 (congrArg Array.toList Tryd.results61) (by kernel_rfl) (by simp) (Sy.refl w) ?_
  simp (disch := omega) only [push_cast, Nat.reduceEqDiff, Int.toNat_natCast]
  exact finIs (by simp) rfl
def CopyOK (n : Nat) : Prop := ∀ (w : World) (lo : Nat) (l : List Fld) (a : Option Addr) (c : Nat), lo ≤ w.heap.size → Rd w lo a l → l.length ≤ c → c ≤ 9223372036854775807 → l.length ≤ 32 → okT l = true → SizeOf.sizeOf l < n →
  Calls Tryd.prog 39 #[.slice a l.length c] w (RetsN w (fun v M => CopyS v M l))
structure CpI (w0 : World) (l : List Fld) (a : Option Addr) (c : Nat) (i : Nat) (wb : World) (e : Env) (ds : List Deferred) (L : Own) : Prop where
  hw : wb = w0
  hds : ds = []
  o : ∃ A xs, RowO w0 38 7 L A (e 3) i xs ∧ (∀ p ∈ A, w0.heap.size ≤ p.1) ∧ FldsM A (l.take i) xs
  il : i ≤ l.length
  h6 : e 6 = .slice a l.length c
  h7 : e 7 = i64 l.length
  h8 : e 8 = i64 i
theorem copied_step (n : Nat) (hC : ∀ m, m < n → CopyOK m) : CopyOK n := by
  intro w lo l a c hlo hr hc hc2 hl32 hok hsz
  refine enterB (args := [.slice a l.length c]) Tryd.func39 rfl Tryd.ntmps39 (congrArg Array.toList Tryd.results39) (by kernel_rfl) (by simp) (Sy.refl w) ?_
  simp (disch := omega) only [push_cast, Nat.reduceEqDiff]
  repeat' (first | ((first | refine guardX_t rfl (fun h => ?_) (fun h => ?_) | refine guardX_f rfl (fun h => ?_) (fun h => ?_) | refine condX_d (fun h => ?_) (fun h => ?_) | (refine guardX_bt rfl (fun h => ?_) (fun h => ?_) <;> (try subst h)) | (refine guardX_bf rfl (fun h => ?_) (fun h => ?_) <;> (try subst h)) | (refine condX_b (fun h => ?_) (fun h => ?_) <;> (try subst h)) | refine ldOne Shp.eq (by (first | exact mem0 | exact mem1 | exact mem2 | exact mem3 | exact mem4 | exact mem5)) rfl ?_ | refine loadX_agg Shp.eq (by (first | exact mem0 | exact mem1 | exact mem2 | exact mem3 | exact mem4 | exact mem5)) rfl rfl ?_ | refine newI (fun b hb hn => ?_) | refine storeX 0 rfl Siz.eq rfl rfl (by simp [Value.oneCell']) (by simp) ?_ | refine storeX 1 rfl Siz.eq rfl rfl (by simp [Value.oneCell']) (by simp) ?_ | refine storeX 2 rfl Siz.eq rfl rfl (by simp [Value.oneCell']) (by simp) ?_ | refine storeX 3 rfl Siz.eq rfl rfl (by simp [Value.oneCell']) (by simp) ?_ | refine storeX 4 rfl Siz.eq rfl rfl (by simp [Value.oneCell']) (by simp) ?_ | refine storeX 5 rfl Siz.eq rfl rfl (by simp [Value.oneCell']) (by simp) ?_ | refine storeX 6 rfl Siz.eq rfl rfl (by simp [Value.oneCell']) (by simp) ?_) <;> simp (disch := omega) only [push_cast, Nat.reduceEqDiff]))
  rw [V_block]
  simp (disch := omega) only [push_cast, Nat.reduceEqDiff]
  refine loopW (G := Nat) (CpI w l a c) (fun i => l.length - i) 0 [] (fun w hw => hw) (by kernel_rfl) ⟨rfl, rfl, ⟨[], [], ⟨rfl, .inl ⟨rfl, rfl, rfl⟩⟩, by simp, rfl⟩, by omega, rfl, rfl, rfl⟩ ?_
  rintro i wb e ds L ⟨rfl, rfl, ⟨A, xs, hro, hA, hx⟩, hil, h6, h7, h8⟩
  obtain ⟨v0, h3⟩ : ∃ v0, e 3 = v0 := ⟨_, rfl⟩
  rw [h3] at hro
  have hLn := hro.new hA
  simp (disch := omega) only [push_cast, Nat.reduceEqDiff, h3, h6, h7, h8]
  rw [V_cond]
  simp (disch := omega) only [push_cast, Nat.reduceEqDiff, h3, h6, h7, h8]
  refine condX_d (fun hlt => ?_) (fun hge => ?_)
  · obtain ⟨f, hf⟩ : ∃ f, l[i]? = some f := ⟨_, List.getElem?_eq_getElem (by omega)⟩
    obtain ⟨hs1, hs2⟩ := (okS_iff f).1 (okT_get hok hf)
    have hszf : SizeOf.sizeOf f.sub + 1 < n := by
      have h1 := List.sizeOf_lt_of_mem (List.mem_of_getElem? hf)
      have : SizeOf.sizeOf f.sub < SizeOf.sizeOf f := by cases f; simp only [Fld.sub, Fld.mk.sizeOf_spec]; omega
      omega
    obtain ⟨b, off, rfl, hb⟩ : ∃ b off, a = some ⟨b, off, none⟩ ∧ b < lo := by
      obtain ⟨f0, l0, rfl⟩ : ∃ f l', l = f :: l' := List.exists_cons_of_ne_nil (by rintro rfl; simp at hf)
      exact hr.some_of
    obtain ⟨fa, fc, x1, x2, x3, x4, x5, x6⟩ := hr.get i hf
    simp (disch := omega) only [push_cast, Nat.reduceEqDiff, h3, h6, h7, h8]
    rw [V_block]
    simp (disch := omega) only [push_cast, Nat.reduceEqDiff, h3, h6, h7, h8]
    refine ldAggF Shp.eq x2 rfl (out_of (fun p hp => Nat.lt_of_lt_of_le (Nat.lt_of_lt_of_le x1 hlo) (hLn p hp))) ?_
    simp (disch := omega) only [push_cast, Nat.reduceEqDiff, h3, h6, h7, h8, Fld.cells]
    refine newI (fun b5 hb5 hn5 => ?_)
    simp (disch := omega) only [push_cast, Nat.reduceEqDiff, h3, h6, h7, h8]
    repeat' (first | ((first | refine guardX_t rfl (fun h => ?_) (fun h => ?_) | refine guardX_f rfl (fun h => ?_) (fun h => ?_) | refine condX_d (fun h => ?_) (fun h => ?_) | (refine guardX_bt rfl (fun h => ?_) (fun h => ?_) <;> (try subst h)) | (refine guardX_bf rfl (fun h => ?_) (fun h => ?_) <;> (try subst h)) | (refine condX_b (fun h => ?_) (fun h => ?_) <;> (try subst h)) | refine ldOne Shp.eq (by (first | exact mem0 | exact mem1 | exact mem2 | exact mem3 | exact mem4 | exact mem5)) rfl ?_ | refine loadX_agg Shp.eq (by (first | exact mem0 | exact mem1 | exact mem2 | exact mem3 | exact mem4 | exact mem5)) rfl rfl ?_ | refine newI (fun b hb hn => ?_) | refine storeX 0 rfl Siz.eq rfl rfl (by simp [Value.oneCell']) (by simp) ?_ | refine storeX 1 rfl Siz.eq rfl rfl (by simp [Value.oneCell']) (by simp) ?_ | refine storeX 2 rfl Siz.eq rfl rfl (by simp [Value.oneCell']) (by simp) ?_ | refine storeX 3 rfl Siz.eq rfl rfl (by simp [Value.oneCell']) (by simp) ?_ | refine storeX 4 rfl Siz.eq rfl rfl (by simp [Value.oneCell']) (by simp) ?_ | refine storeX 5 rfl Siz.eq rfl rfl (by simp [Value.oneCell']) (by simp) ?_ | refine storeX 6 rfl Siz.eq rfl rfl (by simp [Value.oneCell']) (by simp) ?_) <;> simp (disch := omega) only [push_cast, Nat.reduceEqDiff, h3, h6, h7, h8]))
    have hL5 : ∀ x : Obj, ∀ p ∈ ((b5, x) :: L), wb.heap.size ≤ p.1 := fun x p hp => by
      rcases List.mem_cons.1 hp with rfl | hp
      · exact hb5
      · exact hLn p hp
    refine callV en_39 (callX_new (fun w' hw' => hC (SizeOf.sizeOf f.sub + 1) hszf w' lo f.sub fa fc (Nat.le_trans hlo hw'.size) (x6.sy hlo hw' (fun p hp => Nat.le_trans hlo (hL5 _ p hp))) x3 x5 hs1 hs2 (by omega)) (fun v M hM hMn hS => ?_))
    obtain ⟨a2, c2, xs2, rfl, z1, z2, z3, z4, z5⟩ := hS
    have zr := copy_rdx z3 z4 z5
    simp (disch := omega) only [push_cast, Nat.reduceEqDiff, h3, h6, h7, h8]
    refine storeX_weak (L' := (b5, Obj.cells #[str f.nm, .bool f.nl, i64 f.k, i64 f.wd, i64 f.id, i64 f.ix, .slice fa f.sub.length fc] 38 (0, 0)) :: (M ++ L)) (fun w hw => hw.perm List.perm_middle) (storeX 0 rfl Siz.eq rfl rfl (by simp [Value.oneCell']) (by simp) ?_)
    simp (disch := omega) only [push_cast, Nat.reduceEqDiff, h3, h6, h7, h8]
    refine loadX_agg Shp.eq mem0 rfl rfl ?_
    simp (disch := omega) only [push_cast, Nat.reduceEqDiff, h3, h6, h7, h8]
    refine bs_22_1 (newI fun b9 hb9 hn9 => ?_)
    simp (disch := omega) only [push_cast, Nat.reduceEqDiff, h3, h6, h7, h8]
    obtain ⟨R, rfl, hR⟩ := RowO.unframe hro
    have hMA : ∀ p ∈ M ++ A, wb.heap.size ≤ p.1 := fun p hp => by
      rcases List.mem_append.1 hp with hp | hp
      · exact hM p hp
      · exact hA p hp
    have hbb : ∀ (x y : Obj), ∀ p ∈ ((b9, x) :: (b5, y) :: (M ++ A)), wb.heap.size ≤ p.1 := fun x y p hp => by
      simp only [List.mem_cons] at hp
      rcases hp with rfl | rfl | hp
      · exact hb9
      · exact hb5
      · exact hMA p hp
    refine valX_weak (L' := R ++ ((b9, Obj.cells #[str f.nm, .bool f.nl, i64 f.k, i64 f.wd, i64 f.id, i64 f.ix, .slice a2 f.sub.length c2] 38 (0, 0)) :: (b5, Obj.cells #[str f.nm, .bool f.nl, i64 f.k, i64 f.wd, i64 f.id, i64 f.ix, .slice a2 f.sub.length c2] 38 (0, 0)) :: (M ++ A))) (fun w hw => hw.perm (by
      have p1 : (M ++ (R ++ A)).Perm (R ++ (M ++ A)) := by rw [← List.append_assoc, ← List.append_assoc]; exact List.perm_append_comm.append_right A
      exact ((p1.cons _).cons _).trans ((List.perm_middle.symm.cons _).trans List.perm_middle.symm))) (appendI un_22 infoFldC rfl (m := 1) (news := [str f.nm, .bool f.nl, i64 f.k, i64 f.wd, i64 f.id, i64 f.ix, .slice a2 f.sub.length c2]) (RowO.frame hR) rfl (CanRead.of_own (e := 38) (b := b9) (cs := [str f.nm, .bool f.nl, i64 f.k, i64 f.wd, i64 f.id, i64 f.ix, .slice a2 f.sub.length c2]) (n := 7) (by simp) rfl rfl) (by simp [Value.oneCell']) (by simp only [maxLen]; omega) (by omega) (fun v5 L5 hro5 _ => ?_))
    simp (disch := omega) only [push_cast, Nat.reduceEqDiff, h3, h6, h7, h8]
    obtain ⟨L6, hro6, hs6⟩ := RowO.shrink [(b9, Obj.cells #[str f.nm, .bool f.nl, i64 f.k, i64 f.wd, i64 f.id, i64 f.ix, .slice a2 f.sub.length c2] 38 (0, 0)), (b5, Obj.cells #[str f.nm, .bool f.nl, i64 f.k, i64 f.wd, i64 f.id, i64 f.ix, .slice a2 f.sub.length c2] 38 (0, 0))] hro5 (fun p hp => by
      simp only [List.mem_cons, List.mem_nil_iff, or_false] at hp
      rcases hp with rfl | rfl
      · exact hb9
      · exact hb5)
    refine ⟨i + 1, L6, hs6, ⟨rfl, rfl, ⟨M ++ A, _, hro6, hMA, ?_⟩, by omega, h6, h7, by simp only [upd]; rfl⟩, by omega⟩
    rw [List.take_add_one, hf, Option.toList_some]
    exact FldsM.append (show FldsM (M ++ A) [f] _ from ⟨a2, c2, [], by simp [Fld.cells], z1, x4, z2, zr.mono fun w hw p hp => hw p (List.mem_append_left _ hp), rfl⟩) (hx.mono fun p hp => List.mem_append_right _ hp)
  · obtain rfl : i = l.length := by omega
    rw [List.take_length] at hx
    obtain ⟨va, vc, rfl⟩ := hro.is_slice
    have hle := RowO.le hro
    simp (disch := omega) only [push_cast, Nat.reduceEqDiff, h3, h6, h7, h8]
    refine callV en_61 (callX_is (fun w' hw' => clip_walk w' va l.length vc hle.2.1 hle.2.2) ?_)
    simp (disch := omega) only [push_cast, Nat.reduceEqDiff, h3, h6, h7, h8]
    have hxl := hro.1
    refine fun w' hw' => ⟨_, L, rfl, hw', hLn, va, l.length, xs, rfl, Nat.le_refl _, by omega, hx.mono (fun p hp => hro.mem hp), hxl, ?_⟩
    obtain ⟨h0, ⟨q1, q2, q3⟩ | ⟨b, cap, cs, q1, q2, q3, q4, q5, q6, q7⟩⟩ := hro
    · exact .inl (List.eq_nil_of_length_eq_zero q2)
    · injection q1 with r1 r2 r3
      exact .inr ⟨b, cs, _, r1, by rw [q2]; exact .head _, q7⟩
theorem copied_walk (w : World) (lo : Nat) (l : List Fld) (a : Option Addr) (c : Nat) (hlo : lo ≤ w.heap.size) (hr : Rd w lo a l) (hc : l.length ≤ c) (hc2 : c ≤ 9223372036854775807) (hl : l.length ≤ 32) (hok : okT l = true) :
    Calls Tryd.prog 39 #[.slice a l.length c] w (RetsN w (fun v M => CopyS v M l)) := by
  have key : ∀ n, ∀ m, m < n → CopyOK m := fun n => by
    induction n with
    | zero => intro m h; omega
    | succ n ih =>
      intro m hm
      exact copied_step m fun k hk => ih k (by omega)
  exact key (SizeOf.sizeOf l + 2) (SizeOf.sizeOf l + 1) (by omega) w lo l a c hlo hr hc hc2 hl hok (by omega)
end Go.Proofs.YtgbafmjgfbgeoaaDoor
