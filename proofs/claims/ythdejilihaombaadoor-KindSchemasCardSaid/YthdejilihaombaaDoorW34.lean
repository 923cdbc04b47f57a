/- YthdejilihaombaaDoor: walks, part 34: AlikeSchemas, Count, Find answer as the document does. -/
import Derived.Test.YthdejilihaombaaDoorW14
import Derived.Test.YthdejilihaombaaDoorW33
namespace Go.Proofs.YthdejilihaombaaDoor
open Go Go.K
set_option maxRecDepth 100000
set_option linter.unusedVariables false
set_option linter.unusedSimpArgs false
set_option maxHeartbeats 4000000
/-- A list of texts in memory, below lo. -/
def StrsAt (w : World) (lo : Nat) (a : Option Addr) (ls : List (List UInt8)) : Prop := ls = [] ∨ ∃ b off, a = some ⟨b, off, none⟩ ∧ b < lo ∧ ∀ i s, ls[i]? = some s → At w b (off + i) [str s]
structure KsI (w0 : World) (b3 b4 : Nat) (ns : List (List UInt8)) (a : Option Addr) (c : Nat) (L0 : Own) (i : Nat) (wb : World) (e : Env) (ds : List Deferred) (L : Own) : Prop where
  hw : wb = w0
  hds : ds = []
  o : L = L0
  il : i ≤ ns.length
  h3 : e 3 = .pointer (some ⟨b3, 0, none⟩)
  h4 : e 4 = .pointer (some ⟨b4, 0, none⟩)
  h43 : e 43 = .slice a ns.length c
  h44 : e 44 = i64 ns.length
  h45 : e 45 = i64 i
structure KsJ (w0 : World) (b3 : Nat) (l : List Fld) (a : Option Addr) (c : Nat) (L0 : Own) (i : Nat) (wb : World) (e : Env) (ds : List Deferred) (L : Own) : Prop where
  hw : wb = w0
  hds : ds = []
  o : L = L0
  il : i ≤ l.length
  h3 : e 3 = .pointer (some ⟨b3, 0, none⟩)
  h58 : e 58 = .slice a l.length c
  h59 : e 59 = i64 l.length
  h60 : e 60 = i64 i
theorem kindSchemas_walk (w : World) (hs : SaysAt w) (lo : Nat) (hlo : lo ≤ w.heap.size) (a : Option Addr) (l : List Fld) (c : Nat) (na : Option Addr) (nt : List NoteT) (nc : Nat) (h : SchAt w lo a l c na nt nc) (a' : Option Addr) (m : List Fld) (c' : Nat) (na' : Option Addr) (nt' : List NoteT) (nc' : Nat) (h' : SchAt w lo a' m c' na' nt' nc')
    (sa : Option Addr) (ns : List (List UInt8)) (sc : Nat) (hn : StrsAt w lo sa ns) (hnl : ns.length ≤ 9223372036854775807) :
    Calls Tryd.prog 8 #[schV a l c na nt nc, schV a' m c' na' nt' nc', .slice sa ns.length sc] w (Rets w (Is (.bool true))) := by
  refine enterT (args := [schV a l c na nt nc, schV a' m c' na' nt' nc', .slice sa ns.length sc]) Tryd.func8 rfl Tryd.ntmps8 (congrArg Array.toList Tryd.results8) (by kernel_rfl) (by simp) (Sy.refl w) ?_
  simp (disch := omega) only [push_cast, Nat.reduceEqDiff, schV]
  refine newI (fun b3 hb3 hn3 => ?_)
  simp (disch := omega) only [push_cast, Nat.reduceEqDiff]
  refine newI (fun b4 hb4 hn4 => ?_)
  have hL : ∀ p ∈ [(b4, Obj.cells #[.slice a' m.length c', .slice na' nt'.length nc'] 46 (0, 0)), (b3, Obj.cells #[.slice a l.length c, .slice na nt.length nc] 46 (0, 0))], w.heap.size ≤ p.1 := fun p hp => by
    simp only [List.mem_cons, List.mem_nil_iff, or_false] at hp
    rcases hp with rfl | rfl <;> assumption
  have k1 := fun w' (L' : Own) (hL' : ∀ p ∈ L', w.heap.size ≤ p.1) hw' => h.sy hlo (w' := w') (M := L') hw' (fun p hp => Nat.le_trans hlo (hL' p hp))
  have k2 := fun w' (L' : Own) (hL' : ∀ p ∈ L', w.heap.size ≤ p.1) hw' => h'.sy hlo (w' := w') (M := L') hw' (fun p hp => Nat.le_trans hlo (hL' p hp))
  simp (disch := omega) only [push_cast, Nat.reduceEqDiff]
  refine callV en_21 (callX_is (fun w' hw' => awake_walk w' (hs.mono hw' hL)) ?_)
  simp (disch := omega) only [push_cast, Nat.reduceEqDiff]
  rw [V_cond]
  simp (disch := omega) only [push_cast, Nat.reduceEqDiff]
  refine condX_b (fun hm => by cases hm) (fun _ => ?_)
  simp (disch := omega) only [push_cast, Nat.reduceEqDiff]
  refine drawQT (by kernel_rfl) (by kernel_rfl) mixed (by kernel_rfl) ?_
  simp (disch := omega) only [push_cast, Nat.reduceEqDiff]
  refine loadX_agg Shp.eq mem1 rfl rfl ?_
  simp (disch := omega) only [push_cast, Nat.reduceEqDiff]
  refine loadX_agg Shp.eq mem0 rfl rfl ?_
  simp (disch := omega) only [push_cast, Nat.reduceEqDiff]
  refine qcallV en_29 (qcallX_is _ (fun w' hw' => alikeSchemas_walk w' (hs.mono hw' hL) lo (Nat.le_trans hlo hw'.size) a l c na nt nc (k1 w' _ hL hw') a' m c' na' nt' nc' (k2 w' _ hL hw')) ?_)
  simp (disch := omega) only [push_cast, Nat.reduceEqDiff]
  refine loadX_agg Shp.eq mem1 rfl rfl ?_
  simp (disch := omega) only [push_cast, Nat.reduceEqDiff]
  refine loadX_agg Shp.eq mem0 rfl rfl ?_
  simp (disch := omega) only [push_cast, Nat.reduceEqDiff]
  refine qcallV en_30 (qcallX_is _ (fun w' hw' => alikeSchemasR_walk w' lo (Nat.le_trans hlo hw'.size) a l c na nt nc (k1 w' _ hL hw') a' m c' na' nt' nc' (k2 w' _ hL hw')) ?_)
  simp (disch := omega) only [push_cast, Nat.reduceEqDiff, bne_self_eq_false]
  refine loadX_agg Shp.eq mem0 rfl rfl ?_
  simp (disch := omega) only [push_cast, Nat.reduceEqDiff]
  refine loadX_agg Shp.eq mem1 rfl rfl ?_
  simp (disch := omega) only [push_cast, Nat.reduceEqDiff]
  refine qcallV en_29 (qcallX_is _ (fun w' hw' => alikeSchemas_walk w' (hs.mono hw' hL) lo (Nat.le_trans hlo hw'.size) a' m c' na' nt' nc' (k2 w' _ hL hw') a l c na nt nc (k1 w' _ hL hw')) ?_)
  simp (disch := omega) only [push_cast, Nat.reduceEqDiff]
  refine loadX_agg Shp.eq mem0 rfl rfl ?_
  simp (disch := omega) only [push_cast, Nat.reduceEqDiff]
  refine loadX_agg Shp.eq mem1 rfl rfl ?_
  simp (disch := omega) only [push_cast, Nat.reduceEqDiff]
  refine qcallV en_30 (qcallX_is _ (fun w' hw' => alikeSchemasR_walk w' lo (Nat.le_trans hlo hw'.size) a' m c' na' nt' nc' (k2 w' _ hL hw') a l c na nt nc (k1 w' _ hL hw')) ?_)
  simp (disch := omega) only [push_cast, Nat.reduceEqDiff, bne_self_eq_false, ne_eq, not_true_eq_false, decide_false]
  refine loadX_agg Shp.eq mem1 rfl rfl ?_
  simp (disch := omega) only [push_cast, Nat.reduceEqDiff]
  refine qcallV en_27 (qcallX_is _ (fun w' hw' => count_walk w' (hs.mono hw' hL) lo (Nat.le_trans hlo hw'.size) a l c na nt nc (k1 w' _ hL hw')) ?_)
  simp (disch := omega) only [push_cast, Nat.reduceEqDiff]
  refine loadX_agg Shp.eq mem1 rfl rfl ?_
  simp (disch := omega) only [push_cast, Nat.reduceEqDiff]
  refine qcallV en_31 (qcallX_is _ (fun w' hw' => countR_walk w' lo (Nat.le_trans hlo hw'.size) a l c na nt nc (k1 w' _ hL hw')) ?_)
  simp (disch := omega) only [push_cast, Nat.reduceEqDiff, bne_self_eq_false, ne_eq, not_true_eq_false, decide_false]
  refine loadX_agg Shp.eq mem0 rfl rfl ?_
  simp (disch := omega) only [push_cast, Nat.reduceEqDiff]
  refine qcallV en_27 (qcallX_is _ (fun w' hw' => count_walk w' (hs.mono hw' hL) lo (Nat.le_trans hlo hw'.size) a' m c' na' nt' nc' (k2 w' _ hL hw')) ?_)
  simp (disch := omega) only [push_cast, Nat.reduceEqDiff]
  refine loadX_agg Shp.eq mem0 rfl rfl ?_
  simp (disch := omega) only [push_cast, Nat.reduceEqDiff]
  refine qcallV en_31 (qcallX_is _ (fun w' hw' => countR_walk w' lo (Nat.le_trans hlo hw'.size) a' m c' na' nt' nc' (k2 w' _ hL hw')) ?_)
  simp (disch := omega) only [push_cast, Nat.reduceEqDiff, bne_self_eq_false, ne_eq, not_true_eq_false, decide_false]
  rw [V_cond]
  simp (disch := omega) only [push_cast, Nat.reduceEqDiff]
  repeat' (first | ((first | refine guardX_t rfl (fun h => ?_) (fun h => ?_) | refine guardX_f rfl (fun h => ?_) (fun h => ?_) | refine condX_d (fun h => ?_) (fun h => ?_) | (refine guardX_bt rfl (fun h => ?_) (fun h => ?_) <;> (try subst h)) | (refine guardX_bf rfl (fun h => ?_) (fun h => ?_) <;> (try subst h)) | (refine condX_b (fun h => ?_) (fun h => ?_) <;> (try subst h)) | refine ldOne Shp.eq (by (first | exact mem0 | exact mem1 | exact mem2 | exact mem3 | exact mem4 | exact mem5)) rfl ?_ | refine loadX_agg Shp.eq (by (first | exact mem0 | exact mem1 | exact mem2 | exact mem3 | exact mem4 | exact mem5)) rfl rfl ?_ | refine newI (fun b hb hn => ?_) | refine storeX 0 rfl Siz.eq rfl rfl (by simp [Value.oneCell']) (by simp) ?_ | refine storeX 1 rfl Siz.eq rfl rfl (by simp [Value.oneCell']) (by simp) ?_ | refine storeX 2 rfl Siz.eq rfl rfl (by simp [Value.oneCell']) (by simp) ?_ | refine storeX 3 rfl Siz.eq rfl rfl (by simp [Value.oneCell']) (by simp) ?_ | refine storeX 4 rfl Siz.eq rfl rfl (by simp [Value.oneCell']) (by simp) ?_ | refine storeX 5 rfl Siz.eq rfl rfl (by simp [Value.oneCell']) (by simp) ?_ | refine storeX 6 rfl Siz.eq rfl rfl (by simp [Value.oneCell']) (by simp) ?_) <;> simp (disch := omega) only [push_cast, Nat.reduceEqDiff]))
  rw [V_block]
  simp (disch := omega) only [push_cast, Nat.reduceEqDiff]
  refine loopW (G := Nat) (KsI w b3 b4 ns sa sc [(b4, Obj.cells #[.slice a' m.length c', .slice na' nt'.length nc'] 46 (0, 0)), (b3, Obj.cells #[.slice a l.length c, .slice na nt.length nc] 46 (0, 0))]) (fun i => ns.length - i) 0 _ (fun w hw => hw) (by kernel_rfl) ⟨rfl, rfl, rfl, by omega, rfl, rfl, rfl, rfl, rfl⟩ ?_
  rintro i wb e ds L ⟨rfl, rfl, rfl, hil, h3, h4, h43, h44, h45⟩
  simp (disch := omega) only [push_cast, Nat.reduceEqDiff, h3, h4, h43, h44, h45]
  rw [V_cond]
  simp (disch := omega) only [push_cast, Nat.reduceEqDiff, h3, h4, h43, h44, h45]
  refine condX_d (fun hlt => ?_) (fun hge => ?_)
  · obtain ⟨s, hsx⟩ : ∃ s, ns[i]? = some s := ⟨_, List.getElem?_eq_getElem (by omega)⟩
    rcases hn with rfl | ⟨b, off, rfl, hb, hn⟩
    · simp at hsx
    simp (disch := omega) only [push_cast, Nat.reduceEqDiff, h3, h4, h43, h44, h45]
    rw [V_block]
    simp (disch := omega) only [push_cast, Nat.reduceEqDiff, h3, h4, h43, h44, h45]
    refine ldF Shp.eq (by simpa using hn i s hsx) (out_of (fun p hp => Nat.lt_of_lt_of_le (Nat.lt_of_lt_of_le hb hlo) (hL p hp))) ?_
    simp (disch := omega) only [push_cast, Nat.reduceEqDiff, h3, h4, h43, h44, h45]
    refine drawQT (by kernel_rfl) (by kernel_rfl) mixed (by kernel_rfl) ?_
    simp (disch := omega) only [push_cast, Nat.reduceEqDiff, h3, h4, h43, h44, h45]
    refine loadX_agg Shp.eq mem1 rfl rfl ?_
    simp (disch := omega) only [push_cast, Nat.reduceEqDiff, h3, h4, h43, h44, h45]
    refine qcallV en_32 (qcallX_is _ (fun w' hw' => find_walk w' (hs.mono hw' hL) lo (Nat.le_trans hlo hw'.size) a l c na nt nc (k1 w' _ hL hw') s) ?_)
    simp (disch := omega) only [push_cast, Nat.reduceEqDiff, h3, h4, h43, h44, h45]
    refine loadX_agg Shp.eq mem1 rfl rfl ?_
    simp (disch := omega) only [push_cast, Nat.reduceEqDiff, h3, h4, h43, h44, h45]
    refine qcallV en_33 (qcallX_is _ (fun w' hw' => findR_walk w' lo (Nat.le_trans hlo hw'.size) a l c na nt nc (k1 w' _ hL hw') s) ?_)
    simp (disch := omega) only [push_cast, Nat.reduceEqDiff, h3, h4, h43, h44, h45, bne_self_eq_false, ne_eq, not_true_eq_false, decide_false]
    rw [V_cond]
    simp (disch := omega) only [push_cast, Nat.reduceEqDiff, h3, h4, h43, h44, h45]
    exact ⟨i + 1, _, fun w hw => hw, ⟨rfl, rfl, rfl, by omega, h3, h4, h43, h44, by simp only [upd]; rfl⟩, by omega⟩
  · simp (disch := omega) only [push_cast, Nat.reduceEqDiff, h3, h4, h43, h44, h45]
    repeat' (first | ((first | refine guardX_t rfl (fun h => ?_) (fun h => ?_) | refine guardX_f rfl (fun h => ?_) (fun h => ?_) | refine condX_d (fun h => ?_) (fun h => ?_) | (refine guardX_bt rfl (fun h => ?_) (fun h => ?_) <;> (try subst h)) | (refine guardX_bf rfl (fun h => ?_) (fun h => ?_) <;> (try subst h)) | (refine condX_b (fun h => ?_) (fun h => ?_) <;> (try subst h)) | refine ldOne Shp.eq (by (first | exact mem0 | exact mem1 | exact mem2 | exact mem3 | exact mem4 | exact mem5)) rfl ?_ | refine loadX_agg Shp.eq (by (first | exact mem0 | exact mem1 | exact mem2 | exact mem3 | exact mem4 | exact mem5)) rfl rfl ?_ | refine newI (fun b hb hn => ?_) | refine storeX 0 rfl Siz.eq rfl rfl (by simp [Value.oneCell']) (by simp) ?_ | refine storeX 1 rfl Siz.eq rfl rfl (by simp [Value.oneCell']) (by simp) ?_ | refine storeX 2 rfl Siz.eq rfl rfl (by simp [Value.oneCell']) (by simp) ?_ | refine storeX 3 rfl Siz.eq rfl rfl (by simp [Value.oneCell']) (by simp) ?_ | refine storeX 4 rfl Siz.eq rfl rfl (by simp [Value.oneCell']) (by simp) ?_ | refine storeX 5 rfl Siz.eq rfl rfl (by simp [Value.oneCell']) (by simp) ?_ | refine storeX 6 rfl Siz.eq rfl rfl (by simp [Value.oneCell']) (by simp) ?_) <;> simp (disch := omega) only [push_cast, Nat.reduceEqDiff, h3]))
    rw [V_block]
    simp (disch := omega) only [push_cast, Nat.reduceEqDiff, h3]
    have hl63 := Nat.le_trans h.hc h.hc2
    refine loopW (G := Nat) (KsJ wb b3 l a c [(b4, Obj.cells #[.slice a' m.length c', .slice na' nt'.length nc'] 46 (0, 0)), (b3, Obj.cells #[.slice a l.length c, .slice na nt.length nc] 46 (0, 0))]) (fun i => l.length - i) 0 _ (fun w hw => hw) (by kernel_rfl) ⟨rfl, rfl, rfl, by omega, h3, rfl, rfl, rfl⟩ ?_
    clear h3 h4 h43 h44 h45 e
    rintro i wb e ds L ⟨rfl, rfl, rfl, hil, h3, h58, h59, h60⟩
    simp (disch := omega) only [push_cast, Nat.reduceEqDiff, h3, h58, h59, h60]
    rw [V_cond]
    simp (disch := omega) only [push_cast, Nat.reduceEqDiff, h3, h58, h59, h60]
    refine condX_d (fun hlt => ?_) (fun hge => ?_)
    · obtain ⟨f, hf⟩ : ∃ f, l[i]? = some f := ⟨_, List.getElem?_eq_getElem (by omega)⟩
      obtain ⟨b, off, rfl, hb⟩ : ∃ b off, a = some ⟨b, off, none⟩ ∧ b < lo := by
        obtain ⟨f0, l0, rfl⟩ : ∃ f l', l = f :: l' := List.exists_cons_of_ne_nil (by rintro rfl; simp at hf)
        exact h.hr.some_of
      obtain ⟨fa, fc, x1, x2, x3, x4, x5, x6⟩ := h.hr.get i hf
      simp (disch := omega) only [push_cast, Nat.reduceEqDiff, h3, h58, h59, h60]
      rw [V_block]
      simp (disch := omega) only [push_cast, Nat.reduceEqDiff, h3, h58, h59, h60]
      refine ldAggF Shp.eq x2 rfl (out_of (fun p hp => Nat.lt_of_lt_of_le (Nat.lt_of_lt_of_le x1 hlo) (hL p hp))) ?_
      simp (disch := omega) only [push_cast, Nat.reduceEqDiff, h3, h58, h59, h60, Fld.cells]
      refine newI (fun b6 hb6 hn6 => ?_)
      simp (disch := omega) only [push_cast, Nat.reduceEqDiff, h3, h58, h59, h60]
      repeat' (first | ((first | refine guardX_t rfl (fun h => ?_) (fun h => ?_) | refine guardX_f rfl (fun h => ?_) (fun h => ?_) | refine condX_d (fun h => ?_) (fun h => ?_) | (refine guardX_bt rfl (fun h => ?_) (fun h => ?_) <;> (try subst h)) | (refine guardX_bf rfl (fun h => ?_) (fun h => ?_) <;> (try subst h)) | (refine condX_b (fun h => ?_) (fun h => ?_) <;> (try subst h)) | refine ldOne Shp.eq (by (first | exact mem0 | exact mem1 | exact mem2 | exact mem3 | exact mem4 | exact mem5)) rfl ?_ | refine loadX_agg Shp.eq (by (first | exact mem0 | exact mem1 | exact mem2 | exact mem3 | exact mem4 | exact mem5)) rfl rfl ?_ | refine newI (fun b hb hn => ?_) | refine storeX 0 rfl Siz.eq rfl rfl (by simp [Value.oneCell']) (by simp) ?_ | refine storeX 1 rfl Siz.eq rfl rfl (by simp [Value.oneCell']) (by simp) ?_ | refine storeX 2 rfl Siz.eq rfl rfl (by simp [Value.oneCell']) (by simp) ?_ | refine storeX 3 rfl Siz.eq rfl rfl (by simp [Value.oneCell']) (by simp) ?_ | refine storeX 4 rfl Siz.eq rfl rfl (by simp [Value.oneCell']) (by simp) ?_ | refine storeX 5 rfl Siz.eq rfl rfl (by simp [Value.oneCell']) (by simp) ?_ | refine storeX 6 rfl Siz.eq rfl rfl (by simp [Value.oneCell']) (by simp) ?_) <;> simp (disch := omega) only [push_cast, Nat.reduceEqDiff, h3, h58, h59, h60]))
      have hL6 : ∀ p ∈ ((b6, Obj.cells #[str f.nm, .bool f.nl, i64 f.k, i64 f.wd, i64 f.id, i64 f.ix, .slice fa f.sub.length fc] 26 (0, 0)) :: [(b4, Obj.cells #[.slice a' m.length c', .slice na' nt'.length nc'] 46 (0, 0)), (b3, Obj.cells #[.slice (some ⟨b, off, none⟩) l.length c, .slice na nt.length nc] 46 (0, 0))]), wb.heap.size ≤ p.1 := fun p hp => by
        rcases List.mem_cons.1 hp with rfl | hp
        · exact hb6
        · exact hL p hp
      refine drawQT (by kernel_rfl) (by kernel_rfl) mixed (by kernel_rfl) ?_
      simp (disch := omega) only [push_cast, Nat.reduceEqDiff, h3, h58, h59, h60]
      refine guardX_t rfl (fun hfew => ?_) (fun hmany => ?_)
      · simp (disch := omega) only [push_cast, Nat.reduceEqDiff, h3, h58, h59, h60]
        refine loadX_agg Shp.eq mem2 rfl rfl ?_
        simp (disch := omega) only [push_cast, Nat.reduceEqDiff, h3, h58, h59, h60]
        refine ldOne Shp.eq mem0 rfl ?_
        simp (disch := omega) only [push_cast, Nat.reduceEqDiff, h3, h58, h59, h60]
        refine qcallV en_32 (qcallX_is _ (fun w' hw' => find_walk w' (hs.mono hw' hL6) lo (Nat.le_trans hlo hw'.size) _ l c na nt nc (k1 w' _ hL6 hw') f.nm) ?_)
        simp (disch := omega) only [push_cast, Nat.reduceEqDiff, h3, h58, h59, h60]
        refine loadX_agg Shp.eq mem2 rfl rfl ?_
        simp (disch := omega) only [push_cast, Nat.reduceEqDiff, h3, h58, h59, h60]
        refine ldOne Shp.eq mem0 rfl ?_
        simp (disch := omega) only [push_cast, Nat.reduceEqDiff, h3, h58, h59, h60]
        refine qcallV en_33 (qcallX_is _ (fun w' hw' => findR_walk w' lo (Nat.le_trans hlo hw'.size) _ l c na nt nc (k1 w' _ hL6 hw') f.nm) ?_)
        simp (disch := omega) only [push_cast, Nat.reduceEqDiff, h3, h58, h59, h60, bne_self_eq_false, ne_eq, not_true_eq_false, decide_false]
        rw [V_cond]
        simp (disch := omega) only [push_cast, Nat.reduceEqDiff, h3, h58, h59, h60]
        exact ⟨i + 1, _, fun w hw => hw.mid [] [_] (fun p hp => by rw [List.mem_singleton.1 hp]; exact hb6), ⟨rfl, rfl, rfl, by omega, h3, h58, h59, by simp only [upd]; rfl⟩, by omega⟩
      · simp (disch := omega) only [push_cast, Nat.reduceEqDiff, h3, h58, h59, h60]
        rw [V_cond]
        simp (disch := omega) only [push_cast, Nat.reduceEqDiff, h3, h58, h59, h60]
        exact ⟨i + 1, _, fun w hw => hw.mid [] [_] (fun p hp => by rw [List.mem_singleton.1 hp]; exact hb6), ⟨rfl, rfl, rfl, by omega, h3, h58, h59, by simp only [upd]; rfl⟩, by omega⟩
    · simp (disch := omega) only [push_cast, Nat.reduceEqDiff, h3, h58, h59, h60]
      exact finIs hL rfl
end Go.Proofs.YthdejilihaombaaDoor
