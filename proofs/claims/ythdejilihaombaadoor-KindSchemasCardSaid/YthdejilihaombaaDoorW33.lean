/- YthdejilihaombaaDoor: walks, part 33: which schemas are alike, how many fields they have, which of them has a name: the program's AlikeSchemas, the reference's AlikeSchemas, Nodes, Count, Find. -/
import Derived.Test.YthdejilihaombaaDoorW32
namespace Go.Proofs.YthdejilihaombaaDoor
open Go Go.K
set_option maxRecDepth 100000
set_option linter.unusedVariables false
set_option linter.unusedSimpArgs false
set_option maxHeartbeats 4000000
def alikeSP (l m : List Fld) (nt nt' : List NoteT) : Bool := mayP l nt && mayP m nt' && sameL l m
abbrev fT (l : List Fld) : Fld := .mk [] false 0 0 0 0 l
theorem alikeSchemas_walk (w : World) (hs : SaysAt w) (lo : Nat) (hlo : lo ≤ w.heap.size) (a : Option Addr) (l : List Fld) (c : Nat) (na : Option Addr) (nt : List NoteT) (nc : Nat) (h : SchAt w lo a l c na nt nc) (a' : Option Addr) (m : List Fld) (c' : Nat) (na' : Option Addr) (nt' : List NoteT) (nc' : Nat) (h' : SchAt w lo a' m c' na' nt' nc') :
    Calls Tryd.prog 29 #[schV a l c na nt nc, schV a' m c' na' nt' nc'] w (Rets w (Is (.bool (alikeSP l m nt nt')))) := by
  refine enterT (args := [schV a l c na nt nc, schV a' m c' na' nt' nc']) Tryd.func29 rfl Tryd.ntmps29 (congrArg Array.toList Tryd.results29) (by kernel_rfl) (by simp) (Sy.refl w) ?_
  simp (disch := omega) only [push_cast, Nat.reduceEqDiff, schV]
  refine newI (fun b2 hb2 hn2 => ?_)
  simp (disch := omega) only [push_cast, Nat.reduceEqDiff]
  refine newI (fun b3 hb3 hn3 => ?_)
  have hL : ∀ x y, ∀ p ∈ [(b3, (x : Obj)), (b2, y)], w.heap.size ≤ p.1 := fun x y p hp => by
    simp only [List.mem_cons, List.mem_nil_iff, or_false] at hp
    rcases hp with rfl | rfl <;> assumption
  simp (disch := omega) only [push_cast, Nat.reduceEqDiff]
  repeat' (first | ((first | refine guardX_t rfl (fun h => ?_) (fun h => ?_) | refine guardX_f rfl (fun h => ?_) (fun h => ?_) | refine condX_d (fun h => ?_) (fun h => ?_) | (refine guardX_bt rfl (fun h => ?_) (fun h => ?_) <;> (try subst h)) | (refine guardX_bf rfl (fun h => ?_) (fun h => ?_) <;> (try subst h)) | (refine condX_b (fun h => ?_) (fun h => ?_) <;> (try subst h)) | refine ldOne Shp.eq (by (first | exact mem0 | exact mem1 | exact mem2 | exact mem3 | exact mem4 | exact mem5)) rfl ?_ | refine loadX_agg Shp.eq (by (first | exact mem0 | exact mem1 | exact mem2 | exact mem3 | exact mem4 | exact mem5)) rfl rfl ?_ | refine newI (fun b hb hn => ?_) | refine storeX 0 rfl Siz.eq rfl rfl (by simp [Value.oneCell']) (by simp) ?_ | refine storeX 1 rfl Siz.eq rfl rfl (by simp [Value.oneCell']) (by simp) ?_ | refine storeX 2 rfl Siz.eq rfl rfl (by simp [Value.oneCell']) (by simp) ?_ | refine storeX 3 rfl Siz.eq rfl rfl (by simp [Value.oneCell']) (by simp) ?_ | refine storeX 4 rfl Siz.eq rfl rfl (by simp [Value.oneCell']) (by simp) ?_ | refine storeX 5 rfl Siz.eq rfl rfl (by simp [Value.oneCell']) (by simp) ?_ | refine storeX 6 rfl Siz.eq rfl rfl (by simp [Value.oneCell']) (by simp) ?_) <;> simp (disch := omega) only [push_cast, Nat.reduceEqDiff]))
  have k1 := fun w' x y hw' => h.sy hlo (w' := w') hw' (fun p hp => Nat.le_trans hlo (hL x y p hp))
  have k2 := fun w' x y hw' => h'.sy hlo (w' := w') hw' (fun p hp => Nat.le_trans hlo (hL x y p hp))
  refine callV en_54 (callX_is (fun w' hw' => may_walk w' (hs.mono hw' (hL _ _)) lo (Nat.le_trans hlo hw'.size) a l c na nt nc (k1 w' _ _ hw')) ?_)
  simp (disch := omega) only [push_cast, Nat.reduceEqDiff]
  refine guardX_bt rfl (fun h1 => ?_) (fun h1 => ?_)
  · simp (disch := omega) only [push_cast, Nat.reduceEqDiff]
    repeat' (first | ((first | refine guardX_t rfl (fun h => ?_) (fun h => ?_) | refine guardX_f rfl (fun h => ?_) (fun h => ?_) | refine condX_d (fun h => ?_) (fun h => ?_) | (refine guardX_bt rfl (fun h => ?_) (fun h => ?_) <;> (try subst h)) | (refine guardX_bf rfl (fun h => ?_) (fun h => ?_) <;> (try subst h)) | (refine condX_b (fun h => ?_) (fun h => ?_) <;> (try subst h)) | refine ldOne Shp.eq (by (first | exact mem0 | exact mem1 | exact mem2 | exact mem3 | exact mem4 | exact mem5)) rfl ?_ | refine loadX_agg Shp.eq (by (first | exact mem0 | exact mem1 | exact mem2 | exact mem3 | exact mem4 | exact mem5)) rfl rfl ?_ | refine newI (fun b hb hn => ?_) | refine storeX 0 rfl Siz.eq rfl rfl (by simp [Value.oneCell']) (by simp) ?_ | refine storeX 1 rfl Siz.eq rfl rfl (by simp [Value.oneCell']) (by simp) ?_ | refine storeX 2 rfl Siz.eq rfl rfl (by simp [Value.oneCell']) (by simp) ?_ | refine storeX 3 rfl Siz.eq rfl rfl (by simp [Value.oneCell']) (by simp) ?_ | refine storeX 4 rfl Siz.eq rfl rfl (by simp [Value.oneCell']) (by simp) ?_ | refine storeX 5 rfl Siz.eq rfl rfl (by simp [Value.oneCell']) (by simp) ?_ | refine storeX 6 rfl Siz.eq rfl rfl (by simp [Value.oneCell']) (by simp) ?_) <;> simp (disch := omega) only [push_cast, Nat.reduceEqDiff]))
    refine callV en_54 (callX_is (fun w' hw' => may_walk w' (hs.mono hw' (hL _ _)) lo (Nat.le_trans hlo hw'.size) a' m c' na' nt' nc' (k2 w' _ _ hw')) ?_)
    simp (disch := omega) only [push_cast, Nat.reduceEqDiff]
    refine guardX_bt rfl (fun h2 => ?_) (fun h2 => ?_)
    · simp (disch := omega) only [push_cast, Nat.reduceEqDiff]
      repeat' (first | ((first | refine guardX_t rfl (fun h => ?_) (fun h => ?_) | refine guardX_f rfl (fun h => ?_) (fun h => ?_) | refine condX_d (fun h => ?_) (fun h => ?_) | (refine guardX_bt rfl (fun h => ?_) (fun h => ?_) <;> (try subst h)) | (refine guardX_bf rfl (fun h => ?_) (fun h => ?_) <;> (try subst h)) | (refine condX_b (fun h => ?_) (fun h => ?_) <;> (try subst h)) | refine ldOne Shp.eq (by (first | exact mem0 | exact mem1 | exact mem2 | exact mem3 | exact mem4 | exact mem5)) rfl ?_ | refine loadX_agg Shp.eq (by (first | exact mem0 | exact mem1 | exact mem2 | exact mem3 | exact mem4 | exact mem5)) rfl rfl ?_ | refine newI (fun b hb hn => ?_) | refine storeX 0 rfl Siz.eq rfl rfl (by simp [Value.oneCell']) (by simp) ?_ | refine storeX 1 rfl Siz.eq rfl rfl (by simp [Value.oneCell']) (by simp) ?_ | refine storeX 2 rfl Siz.eq rfl rfl (by simp [Value.oneCell']) (by simp) ?_ | refine storeX 3 rfl Siz.eq rfl rfl (by simp [Value.oneCell']) (by simp) ?_ | refine storeX 4 rfl Siz.eq rfl rfl (by simp [Value.oneCell']) (by simp) ?_ | refine storeX 5 rfl Siz.eq rfl rfl (by simp [Value.oneCell']) (by simp) ?_ | refine storeX 6 rfl Siz.eq rfl rfl (by simp [Value.oneCell']) (by simp) ?_) <;> simp (disch := omega) only [push_cast, Nat.reduceEqDiff]))
      refine callV en_55 (callX_is (fun w' hw' => same_walk w' lo (Nat.le_trans hlo hw'.size) (fT l) (fT m) a a' c c' (k1 w' _ _ hw').hr (k2 w' _ _ hw').hr h.hc h'.hc h.hc2 h'.hc2) ?_)
      simp (disch := omega) only [push_cast, Nat.reduceEqDiff]
      refine finIs (hL _ _) ?_
      rw [sameF_eq]
      simp only [alikeSP, h1, h2, Fld.k, Fld.wd, Fld.id, Fld.ix, Fld.sub, decide_true, Bool.true_and]
    · simp (disch := omega) only [push_cast, Nat.reduceEqDiff]
      repeat' (first | ((first | refine guardX_t rfl (fun h => ?_) (fun h => ?_) | refine guardX_f rfl (fun h => ?_) (fun h => ?_) | refine condX_d (fun h => ?_) (fun h => ?_) | (refine guardX_bt rfl (fun h => ?_) (fun h => ?_) <;> (try subst h)) | (refine guardX_bf rfl (fun h => ?_) (fun h => ?_) <;> (try subst h)) | (refine condX_b (fun h => ?_) (fun h => ?_) <;> (try subst h)) | refine ldOne Shp.eq (by (first | exact mem0 | exact mem1 | exact mem2 | exact mem3 | exact mem4 | exact mem5)) rfl ?_ | refine loadX_agg Shp.eq (by (first | exact mem0 | exact mem1 | exact mem2 | exact mem3 | exact mem4 | exact mem5)) rfl rfl ?_ | refine newI (fun b hb hn => ?_) | refine storeX 0 rfl Siz.eq rfl rfl (by simp [Value.oneCell']) (by simp) ?_ | refine storeX 1 rfl Siz.eq rfl rfl (by simp [Value.oneCell']) (by simp) ?_ | refine storeX 2 rfl Siz.eq rfl rfl (by simp [Value.oneCell']) (by simp) ?_ | refine storeX 3 rfl Siz.eq rfl rfl (by simp [Value.oneCell']) (by simp) ?_ | refine storeX 4 rfl Siz.eq rfl rfl (by simp [Value.oneCell']) (by simp) ?_ | refine storeX 5 rfl Siz.eq rfl rfl (by simp [Value.oneCell']) (by simp) ?_ | refine storeX 6 rfl Siz.eq rfl rfl (by simp [Value.oneCell']) (by simp) ?_) <;> simp (disch := omega) only [push_cast, Nat.reduceEqDiff]))
      exact finIs (hL _ _) (by simp only [alikeSP, h2, Bool.and_false, Bool.false_and])
  · simp (disch := omega) only [push_cast, Nat.reduceEqDiff]
    repeat' (first | ((first | refine guardX_t rfl (fun h => ?_) (fun h => ?_) | refine guardX_f rfl (fun h => ?_) (fun h => ?_) | refine condX_d (fun h => ?_) (fun h => ?_) | (refine guardX_bt rfl (fun h => ?_) (fun h => ?_) <;> (try subst h)) | (refine guardX_bf rfl (fun h => ?_) (fun h => ?_) <;> (try subst h)) | (refine condX_b (fun h => ?_) (fun h => ?_) <;> (try subst h)) | refine ldOne Shp.eq (by (first | exact mem0 | exact mem1 | exact mem2 | exact mem3 | exact mem4 | exact mem5)) rfl ?_ | refine loadX_agg Shp.eq (by (first | exact mem0 | exact mem1 | exact mem2 | exact mem3 | exact mem4 | exact mem5)) rfl rfl ?_ | refine newI (fun b hb hn => ?_) | refine storeX 0 rfl Siz.eq rfl rfl (by simp [Value.oneCell']) (by simp) ?_ | refine storeX 1 rfl Siz.eq rfl rfl (by simp [Value.oneCell']) (by simp) ?_ | refine storeX 2 rfl Siz.eq rfl rfl (by simp [Value.oneCell']) (by simp) ?_ | refine storeX 3 rfl Siz.eq rfl rfl (by simp [Value.oneCell']) (by simp) ?_ | refine storeX 4 rfl Siz.eq rfl rfl (by simp [Value.oneCell']) (by simp) ?_ | refine storeX 5 rfl Siz.eq rfl rfl (by simp [Value.oneCell']) (by simp) ?_ | refine storeX 6 rfl Siz.eq rfl rfl (by simp [Value.oneCell']) (by simp) ?_) <;> simp (disch := omega) only [push_cast, Nat.reduceEqDiff]))
    exact finIs (hL _ _) (by simp only [alikeSP, h1, Bool.false_and])
theorem mayP_eq {l : List Fld} {nt : List NoteT} : mayP l nt = decide ((checkP l nt).1 = 0) := by
  unfold mayP
  rw [Bool.eq_iff_iff]
  simp
theorem alikeSchemasR_walk (w : World) (lo : Nat) (hlo : lo ≤ w.heap.size) (a : Option Addr) (l : List Fld) (c : Nat) (na : Option Addr) (nt : List NoteT) (nc : Nat) (h : SchAt w lo a l c na nt nc) (a' : Option Addr) (m : List Fld) (c' : Nat) (na' : Option Addr) (nt' : List NoteT) (nc' : Nat) (h' : SchAt w lo a' m c' na' nt' nc') :
    Calls Tryd.prog 30 #[schV a l c na nt nc, schV a' m c' na' nt' nc'] w (Rets w (Is (.bool (alikeSP l m nt nt')))) := by
  refine enterT (args := [schV a l c na nt nc, schV a' m c' na' nt' nc']) Tryd.func30 rfl Tryd.ntmps30 (congrArg Array.toList Tryd.results30) (by kernel_rfl) (by simp) (Sy.refl w) ?_
  simp (disch := omega) only [push_cast, Nat.reduceEqDiff, schV]
  refine newI (fun b2 hb2 hn2 => ?_)
  simp (disch := omega) only [push_cast, Nat.reduceEqDiff]
  refine newI (fun b3 hb3 hn3 => ?_)
  have hL : ∀ x y, ∀ p ∈ [(b3, (x : Obj)), (b2, y)], w.heap.size ≤ p.1 := fun x y p hp => by
    simp only [List.mem_cons, List.mem_nil_iff, or_false] at hp
    rcases hp with rfl | rfl <;> assumption
  simp (disch := omega) only [push_cast, Nat.reduceEqDiff]
  repeat' (first | ((first | refine guardX_t rfl (fun h => ?_) (fun h => ?_) | refine guardX_f rfl (fun h => ?_) (fun h => ?_) | refine condX_d (fun h => ?_) (fun h => ?_) | (refine guardX_bt rfl (fun h => ?_) (fun h => ?_) <;> (try subst h)) | (refine guardX_bf rfl (fun h => ?_) (fun h => ?_) <;> (try subst h)) | (refine condX_b (fun h => ?_) (fun h => ?_) <;> (try subst h)) | refine ldOne Shp.eq (by (first | exact mem0 | exact mem1 | exact mem2 | exact mem3 | exact mem4 | exact mem5)) rfl ?_ | refine loadX_agg Shp.eq (by (first | exact mem0 | exact mem1 | exact mem2 | exact mem3 | exact mem4 | exact mem5)) rfl rfl ?_ | refine newI (fun b hb hn => ?_) | refine storeX 0 rfl Siz.eq rfl rfl (by simp [Value.oneCell']) (by simp) ?_ | refine storeX 1 rfl Siz.eq rfl rfl (by simp [Value.oneCell']) (by simp) ?_ | refine storeX 2 rfl Siz.eq rfl rfl (by simp [Value.oneCell']) (by simp) ?_ | refine storeX 3 rfl Siz.eq rfl rfl (by simp [Value.oneCell']) (by simp) ?_ | refine storeX 4 rfl Siz.eq rfl rfl (by simp [Value.oneCell']) (by simp) ?_ | refine storeX 5 rfl Siz.eq rfl rfl (by simp [Value.oneCell']) (by simp) ?_ | refine storeX 6 rfl Siz.eq rfl rfl (by simp [Value.oneCell']) (by simp) ?_) <;> simp (disch := omega) only [push_cast, Nat.reduceEqDiff]))
  have k1 := fun w' (L' : Own) (hL' : ∀ p ∈ L', w.heap.size ≤ p.1) hw' => h.sy hlo (w' := w') (M := L') hw' (fun p hp => Nat.le_trans hlo (hL' p hp))
  have k2 := fun w' (L' : Own) (hL' : ∀ p ∈ L', w.heap.size ≤ p.1) hw' => h'.sy hlo (w' := w') (M := L') hw' (fun p hp => Nat.le_trans hlo (hL' p hp))
  refine callV en_24 (callX_newR (fun w' hw' => checkR_walk w' lo (Nat.le_trans hlo hw'.size) l a c (k1 w' _ (hL _ _) hw').hr h.hc h.hc2 nt na nc (k1 w' _ (hL _ _) hw').hn h.hnc h.hnc2) (fun v M hM hMn ⟨pa, pc, hv, _⟩ => ?_))
  subst hv
  have hLM : ∀ x y, ∀ p ∈ ([(b3, (x : Obj)), (b2, y)] ++ M), w.heap.size ≤ p.1 := fun x y p hp => by
    rcases List.mem_append.1 hp with hp | hp
    · exact hL x y p hp
    · exact hM p hp
  simp (disch := omega) only [push_cast, Nat.reduceEqDiff]
  refine guardX_t rfl (fun h1 => ?_) (fun h1 => ?_)
  · simp (disch := omega) only [push_cast, Nat.reduceEqDiff]
    repeat' (first | ((first | refine guardX_t rfl (fun h => ?_) (fun h => ?_) | refine guardX_f rfl (fun h => ?_) (fun h => ?_) | refine condX_d (fun h => ?_) (fun h => ?_) | (refine guardX_bt rfl (fun h => ?_) (fun h => ?_) <;> (try subst h)) | (refine guardX_bf rfl (fun h => ?_) (fun h => ?_) <;> (try subst h)) | (refine condX_b (fun h => ?_) (fun h => ?_) <;> (try subst h)) | refine ldOne Shp.eq (by (first | exact mem0 | exact mem1 | exact mem2 | exact mem3 | exact mem4 | exact mem5)) rfl ?_ | refine loadX_agg Shp.eq (by (first | exact mem0 | exact mem1 | exact mem2 | exact mem3 | exact mem4 | exact mem5)) rfl rfl ?_ | refine newI (fun b hb hn => ?_) | refine storeX 0 rfl Siz.eq rfl rfl (by simp [Value.oneCell']) (by simp) ?_ | refine storeX 1 rfl Siz.eq rfl rfl (by simp [Value.oneCell']) (by simp) ?_ | refine storeX 2 rfl Siz.eq rfl rfl (by simp [Value.oneCell']) (by simp) ?_ | refine storeX 3 rfl Siz.eq rfl rfl (by simp [Value.oneCell']) (by simp) ?_ | refine storeX 4 rfl Siz.eq rfl rfl (by simp [Value.oneCell']) (by simp) ?_ | refine storeX 5 rfl Siz.eq rfl rfl (by simp [Value.oneCell']) (by simp) ?_ | refine storeX 6 rfl Siz.eq rfl rfl (by simp [Value.oneCell']) (by simp) ?_) <;> simp (disch := omega) only [push_cast, Nat.reduceEqDiff]))
    refine callV en_24 (callX_newR (fun w' hw' => checkR_walk w' lo (Nat.le_trans hlo hw'.size) m a' c' (k2 w' _ (hLM _ _) hw').hr h'.hc h'.hc2 nt' na' nc' (k2 w' _ (hLM _ _) hw').hn h'.hnc h'.hnc2) (fun v M2 hM2 hMn2 ⟨pa2, pc2, hv, _⟩ => ?_))
    subst hv
    have hLM2 : ∀ x y, ∀ p ∈ ((b3, (x : Obj)) :: (b2, y) :: (M ++ M2)), w.heap.size ≤ p.1 := fun x y p hp => by
      simp only [List.mem_cons, List.mem_append] at hp
      rcases hp with rfl | rfl | hp | hp
      · assumption
      · assumption
      · exact hM p hp
      · exact hM2 p hp
    simp (disch := omega) only [push_cast, Nat.reduceEqDiff]
    refine guardX_t rfl (fun h2 => ?_) (fun h2 => ?_)
    · simp (disch := omega) only [push_cast, Nat.reduceEqDiff]
      repeat' (first | ((first | refine guardX_t rfl (fun h => ?_) (fun h => ?_) | refine guardX_f rfl (fun h => ?_) (fun h => ?_) | refine condX_d (fun h => ?_) (fun h => ?_) | (refine guardX_bt rfl (fun h => ?_) (fun h => ?_) <;> (try subst h)) | (refine guardX_bf rfl (fun h => ?_) (fun h => ?_) <;> (try subst h)) | (refine condX_b (fun h => ?_) (fun h => ?_) <;> (try subst h)) | refine ldOne Shp.eq (by (first | exact mem0 | exact mem1 | exact mem2 | exact mem3 | exact mem4 | exact mem5)) rfl ?_ | refine loadX_agg Shp.eq (by (first | exact mem0 | exact mem1 | exact mem2 | exact mem3 | exact mem4 | exact mem5)) rfl rfl ?_ | refine newI (fun b hb hn => ?_) | refine storeX 0 rfl Siz.eq rfl rfl (by simp [Value.oneCell']) (by simp) ?_ | refine storeX 1 rfl Siz.eq rfl rfl (by simp [Value.oneCell']) (by simp) ?_ | refine storeX 2 rfl Siz.eq rfl rfl (by simp [Value.oneCell']) (by simp) ?_ | refine storeX 3 rfl Siz.eq rfl rfl (by simp [Value.oneCell']) (by simp) ?_ | refine storeX 4 rfl Siz.eq rfl rfl (by simp [Value.oneCell']) (by simp) ?_ | refine storeX 5 rfl Siz.eq rfl rfl (by simp [Value.oneCell']) (by simp) ?_ | refine storeX 6 rfl Siz.eq rfl rfl (by simp [Value.oneCell']) (by simp) ?_) <;> simp (disch := omega) only [push_cast, Nat.reduceEqDiff]))
      have hm1 : mayP l nt = true := by rw [mayP_eq]; exact decide_eq_true h1
      have hm2 : mayP m nt' = true := by rw [mayP_eq]; exact decide_eq_true h2
      refine callV en_56 (callX_is (fun w' hw' => alikeR_walk w' lo (Nat.le_trans hlo hw'.size) l m a a' c c' (k1 w' _ (hLM2 _ _) hw').hr (k2 w' _ (hLM2 _ _) hw').hr h.hc h.hc2 h'.hc h'.hc2 true) ?_)
      rw [List.take_of_length_le (Nat.le_trans (few_nodes hm1) (by omega)), List.take_of_length_le (Nat.le_trans (few_nodes hm2) (by omega)), alike_law hm1 hm2]
      simp (disch := omega) only [push_cast, Nat.reduceEqDiff]
      refine finIs (hLM2 _ _) ?_
      simp only [alikeSP, hm1, hm2, Bool.true_and]
    · simp (disch := omega) only [push_cast, Nat.reduceEqDiff]
      repeat' (first | ((first | refine guardX_t rfl (fun h => ?_) (fun h => ?_) | refine guardX_f rfl (fun h => ?_) (fun h => ?_) | refine condX_d (fun h => ?_) (fun h => ?_) | (refine guardX_bt rfl (fun h => ?_) (fun h => ?_) <;> (try subst h)) | (refine guardX_bf rfl (fun h => ?_) (fun h => ?_) <;> (try subst h)) | (refine condX_b (fun h => ?_) (fun h => ?_) <;> (try subst h)) | refine ldOne Shp.eq (by (first | exact mem0 | exact mem1 | exact mem2 | exact mem3 | exact mem4 | exact mem5)) rfl ?_ | refine loadX_agg Shp.eq (by (first | exact mem0 | exact mem1 | exact mem2 | exact mem3 | exact mem4 | exact mem5)) rfl rfl ?_ | refine newI (fun b hb hn => ?_) | refine storeX 0 rfl Siz.eq rfl rfl (by simp [Value.oneCell']) (by simp) ?_ | refine storeX 1 rfl Siz.eq rfl rfl (by simp [Value.oneCell']) (by simp) ?_ | refine storeX 2 rfl Siz.eq rfl rfl (by simp [Value.oneCell']) (by simp) ?_ | refine storeX 3 rfl Siz.eq rfl rfl (by simp [Value.oneCell']) (by simp) ?_ | refine storeX 4 rfl Siz.eq rfl rfl (by simp [Value.oneCell']) (by simp) ?_ | refine storeX 5 rfl Siz.eq rfl rfl (by simp [Value.oneCell']) (by simp) ?_ | refine storeX 6 rfl Siz.eq rfl rfl (by simp [Value.oneCell']) (by simp) ?_) <;> simp (disch := omega) only [push_cast, Nat.reduceEqDiff]))
      exact finIs (hLM2 _ _) (by simp only [alikeSP, mayP_eq (l := m), decide_eq_false h2, Bool.and_false, Bool.false_and])
  · simp (disch := omega) only [push_cast, Nat.reduceEqDiff]
    repeat' (first | ((first | refine guardX_t rfl (fun h => ?_) (fun h => ?_) | refine guardX_f rfl (fun h => ?_) (fun h => ?_) | refine condX_d (fun h => ?_) (fun h => ?_) | (refine guardX_bt rfl (fun h => ?_) (fun h => ?_) <;> (try subst h)) | (refine guardX_bf rfl (fun h => ?_) (fun h => ?_) <;> (try subst h)) | (refine condX_b (fun h => ?_) (fun h => ?_) <;> (try subst h)) | refine ldOne Shp.eq (by (first | exact mem0 | exact mem1 | exact mem2 | exact mem3 | exact mem4 | exact mem5)) rfl ?_ | refine loadX_agg Shp.eq (by (first | exact mem0 | exact mem1 | exact mem2 | exact mem3 | exact mem4 | exact mem5)) rfl rfl ?_ | refine newI (fun b hb hn => ?_) | refine storeX 0 rfl Siz.eq rfl rfl (by simp [Value.oneCell']) (by simp) ?_ | refine storeX 1 rfl Siz.eq rfl rfl (by simp [Value.oneCell']) (by simp) ?_ | refine storeX 2 rfl Siz.eq rfl rfl (by simp [Value.oneCell']) (by simp) ?_ | refine storeX 3 rfl Siz.eq rfl rfl (by simp [Value.oneCell']) (by simp) ?_ | refine storeX 4 rfl Siz.eq rfl rfl (by simp [Value.oneCell']) (by simp) ?_ | refine storeX 5 rfl Siz.eq rfl rfl (by simp [Value.oneCell']) (by simp) ?_ | refine storeX 6 rfl Siz.eq rfl rfl (by simp [Value.oneCell']) (by simp) ?_) <;> simp (disch := omega) only [push_cast, Nat.reduceEqDiff]))
    exact finIs (hLM _ _) (by simp only [alikeSP, mayP_eq (l := l), decide_eq_false h1, Bool.false_and])
def countRP (l : List Fld) (nt : List NoteT) : Nat := if mayP l nt then (nd 65 [] false l).length else 0
theorem countRP_eq {l : List Fld} {nt : List NoteT} : countRP l nt = countP l nt := by
  unfold countRP countP
  by_cases h : mayP l nt = true
  · rw [if_pos h, if_pos h, count_may h]
  · rw [if_neg h, if_neg h]
theorem nodes_walk (w : World) (lo : Nat) (hlo : lo ≤ w.heap.size) (a : Option Addr) (l : List Fld) (c : Nat) (na : Option Addr) (nt : List NoteT) (nc : Nat) (h : SchAt w lo a l c na nt nc) :
    Calls Tryd.prog 57 #[schV a l c na nt nc] w (Rets w fun v _ => ∃ va vc, v = .slice va (countP l nt) vc) := by
  refine enterT (args := [schV a l c na nt nc]) Tryd.func57 rfl Tryd.ntmps57 (congrArg Array.toList Tryd.results57) (by kernel_rfl) (by simp) (Sy.refl w) ?_
  simp (disch := omega) only [push_cast, Nat.reduceEqDiff, schV]
  refine newI (fun b1 hb1 hn1 => ?_)
  have hL : ∀ p ∈ [(b1, Obj.cells #[.slice a l.length c, .slice na nt.length nc] 46 (0, 0))], w.heap.size ≤ p.1 := by
    intro p hp; rw [List.mem_singleton.1 hp]; exact hb1
  simp (disch := omega) only [push_cast, Nat.reduceEqDiff]
  repeat' (first | ((first | refine guardX_t rfl (fun h => ?_) (fun h => ?_) | refine guardX_f rfl (fun h => ?_) (fun h => ?_) | refine condX_d (fun h => ?_) (fun h => ?_) | (refine guardX_bt rfl (fun h => ?_) (fun h => ?_) <;> (try subst h)) | (refine guardX_bf rfl (fun h => ?_) (fun h => ?_) <;> (try subst h)) | (refine condX_b (fun h => ?_) (fun h => ?_) <;> (try subst h)) | refine ldOne Shp.eq (by (first | exact mem0 | exact mem1 | exact mem2 | exact mem3 | exact mem4 | exact mem5)) rfl ?_ | refine loadX_agg Shp.eq (by (first | exact mem0 | exact mem1 | exact mem2 | exact mem3 | exact mem4 | exact mem5)) rfl rfl ?_ | refine newI (fun b hb hn => ?_) | refine storeX 0 rfl Siz.eq rfl rfl (by simp [Value.oneCell']) (by simp) ?_ | refine storeX 1 rfl Siz.eq rfl rfl (by simp [Value.oneCell']) (by simp) ?_ | refine storeX 2 rfl Siz.eq rfl rfl (by simp [Value.oneCell']) (by simp) ?_ | refine storeX 3 rfl Siz.eq rfl rfl (by simp [Value.oneCell']) (by simp) ?_ | refine storeX 4 rfl Siz.eq rfl rfl (by simp [Value.oneCell']) (by simp) ?_ | refine storeX 5 rfl Siz.eq rfl rfl (by simp [Value.oneCell']) (by simp) ?_ | refine storeX 6 rfl Siz.eq rfl rfl (by simp [Value.oneCell']) (by simp) ?_) <;> simp (disch := omega) only [push_cast, Nat.reduceEqDiff]))
  have k1 := fun w' (L' : Own) (hL' : ∀ p ∈ L', w.heap.size ≤ p.1) hw' => h.sy hlo (w' := w') (M := L') hw' (fun p hp => Nat.le_trans hlo (hL' p hp))
  refine callV en_24 (callX_newR (fun w' hw' => checkR_walk w' lo (Nat.le_trans hlo hw'.size) l a c (k1 w' _ hL hw').hr h.hc h.hc2 nt na nc (k1 w' _ hL hw').hn h.hnc h.hnc2) (fun v M hM hMn ⟨pa, pc, hv, _⟩ => ?_))
  subst hv
  have hLM : ∀ p ∈ ([(b1, Obj.cells #[.slice a l.length c, .slice na nt.length nc] 46 (0, 0))] ++ M), w.heap.size ≤ p.1 := fun p hp => by
    rcases List.mem_append.1 hp with hp | hp
    · exact hL p hp
    · exact hM p hp
  simp (disch := omega) only [push_cast, Nat.reduceEqDiff]
  rw [V_cond]
  simp (disch := omega) only [push_cast, Nat.reduceEqDiff]
  refine condX_d (fun h1 => ?_) (fun h1 => ?_)
  · simp (disch := omega) only [push_cast, Nat.reduceEqDiff]
    have hm : mayP l nt = false := by rw [mayP_eq]; exact decide_eq_false h1
    exact finEx hLM (fun w' _ => ⟨none, 0, by unfold countP; rw [hm]; rfl⟩)
  · simp (disch := omega) only [push_cast, Nat.reduceEqDiff]
    repeat' (first | ((first | refine guardX_t rfl (fun h => ?_) (fun h => ?_) | refine guardX_f rfl (fun h => ?_) (fun h => ?_) | refine condX_d (fun h => ?_) (fun h => ?_) | (refine guardX_bt rfl (fun h => ?_) (fun h => ?_) <;> (try subst h)) | (refine guardX_bf rfl (fun h => ?_) (fun h => ?_) <;> (try subst h)) | (refine condX_b (fun h => ?_) (fun h => ?_) <;> (try subst h)) | refine ldOne Shp.eq (by (first | exact mem0 | exact mem1 | exact mem2 | exact mem3 | exact mem4 | exact mem5)) rfl ?_ | refine loadX_agg Shp.eq (by (first | exact mem0 | exact mem1 | exact mem2 | exact mem3 | exact mem4 | exact mem5)) rfl rfl ?_ | refine newI (fun b hb hn => ?_) | refine storeX 0 rfl Siz.eq rfl rfl (by simp [Value.oneCell']) (by simp) ?_ | refine storeX 1 rfl Siz.eq rfl rfl (by simp [Value.oneCell']) (by simp) ?_ | refine storeX 2 rfl Siz.eq rfl rfl (by simp [Value.oneCell']) (by simp) ?_ | refine storeX 3 rfl Siz.eq rfl rfl (by simp [Value.oneCell']) (by simp) ?_ | refine storeX 4 rfl Siz.eq rfl rfl (by simp [Value.oneCell']) (by simp) ?_ | refine storeX 5 rfl Siz.eq rfl rfl (by simp [Value.oneCell']) (by simp) ?_ | refine storeX 6 rfl Siz.eq rfl rfl (by simp [Value.oneCell']) (by simp) ?_) <;> simp (disch := omega) only [push_cast, Nat.reduceEqDiff]))
    have hm : mayP l nt = true := by rw [mayP_eq]; exact decide_eq_true (Decidable.not_not.1 h1)
    refine callV en_52 (callX_own (fun w' hw' => grow_ok 64 w w' _ [] _ lo (.slice none 0 0) [] [] [] (.slice none 0 0) l a c false hw' hlo hLM ⟨rfl, .inl ⟨rfl, rfl, rfl⟩⟩ rfl (by simp) ⟨rfl, .inl ⟨rfl, rfl⟩⟩ rfl h.hr h.hc h.hc2) (fun v1 L1 hS => ?_))
    obtain ⟨A1, xs1, hro1, hno1, hA1, _⟩ := hS
    rw [List.nil_append, List.take_of_length_le (Nat.le_trans (few_nodes hm) (by omega))] at hro1
    obtain ⟨va, vc, rfl⟩ := hro1.is_slice
    have hL1 : ∀ p ∈ L1, w.heap.size ≤ p.1 := hro1.new (fun p hp => by
      rcases List.mem_append.1 hp with hp | hp
      · exact hA1 p hp
      · exact hLM p hp)
    simp (disch := omega) only [push_cast, Nat.reduceEqDiff]
    exact finEx hL1 (fun w' _ => ⟨va, vc, by rw [← countRP_eq]; unfold countRP; rw [hm]; rfl⟩)
theorem countR_walk (w : World) (lo : Nat) (hlo : lo ≤ w.heap.size) (a : Option Addr) (l : List Fld) (c : Nat) (na : Option Addr) (nt : List NoteT) (nc : Nat) (h : SchAt w lo a l c na nt nc) :
    Calls Tryd.prog 31 #[schV a l c na nt nc] w (Rets w (Is (i64 (countP l nt)))) := by
  refine enterT (args := [schV a l c na nt nc]) Tryd.func31 rfl Tryd.ntmps31 (congrArg Array.toList Tryd.results31) (by kernel_rfl) (by simp) (Sy.refl w) ?_
  simp (disch := omega) only [push_cast, Nat.reduceEqDiff, schV]
  refine newI (fun b1 hb1 hn1 => ?_)
  have hL : ∀ p ∈ [(b1, Obj.cells #[.slice a l.length c, .slice na nt.length nc] 46 (0, 0))], w.heap.size ≤ p.1 := by
    intro p hp; rw [List.mem_singleton.1 hp]; exact hb1
  simp (disch := omega) only [push_cast, Nat.reduceEqDiff]
  repeat' (first | ((first | refine guardX_t rfl (fun h => ?_) (fun h => ?_) | refine guardX_f rfl (fun h => ?_) (fun h => ?_) | refine condX_d (fun h => ?_) (fun h => ?_) | (refine guardX_bt rfl (fun h => ?_) (fun h => ?_) <;> (try subst h)) | (refine guardX_bf rfl (fun h => ?_) (fun h => ?_) <;> (try subst h)) | (refine condX_b (fun h => ?_) (fun h => ?_) <;> (try subst h)) | refine ldOne Shp.eq (by (first | exact mem0 | exact mem1 | exact mem2 | exact mem3 | exact mem4 | exact mem5)) rfl ?_ | refine loadX_agg Shp.eq (by (first | exact mem0 | exact mem1 | exact mem2 | exact mem3 | exact mem4 | exact mem5)) rfl rfl ?_ | refine newI (fun b hb hn => ?_) | refine storeX 0 rfl Siz.eq rfl rfl (by simp [Value.oneCell']) (by simp) ?_ | refine storeX 1 rfl Siz.eq rfl rfl (by simp [Value.oneCell']) (by simp) ?_ | refine storeX 2 rfl Siz.eq rfl rfl (by simp [Value.oneCell']) (by simp) ?_ | refine storeX 3 rfl Siz.eq rfl rfl (by simp [Value.oneCell']) (by simp) ?_ | refine storeX 4 rfl Siz.eq rfl rfl (by simp [Value.oneCell']) (by simp) ?_ | refine storeX 5 rfl Siz.eq rfl rfl (by simp [Value.oneCell']) (by simp) ?_ | refine storeX 6 rfl Siz.eq rfl rfl (by simp [Value.oneCell']) (by simp) ?_) <;> simp (disch := omega) only [push_cast, Nat.reduceEqDiff]))
  refine callV en_57 (callX_ex (fun w' hw' => nodes_walk w' lo (Nat.le_trans hlo hw'.size) a l c na nt nc (h.sy hlo hw' (fun p hp => Nat.le_trans hlo (hL p hp)))) (fun v hv => ?_))
  obtain ⟨va, vc, rfl⟩ := hv
  simp (disch := omega) only [push_cast, Nat.reduceEqDiff]
  repeat' (first | ((first | refine guardX_t rfl (fun h => ?_) (fun h => ?_) | refine guardX_f rfl (fun h => ?_) (fun h => ?_) | refine condX_d (fun h => ?_) (fun h => ?_) | (refine guardX_bt rfl (fun h => ?_) (fun h => ?_) <;> (try subst h)) | (refine guardX_bf rfl (fun h => ?_) (fun h => ?_) <;> (try subst h)) | (refine condX_b (fun h => ?_) (fun h => ?_) <;> (try subst h)) | refine ldOne Shp.eq (by (first | exact mem0 | exact mem1 | exact mem2 | exact mem3 | exact mem4 | exact mem5)) rfl ?_ | refine loadX_agg Shp.eq (by (first | exact mem0 | exact mem1 | exact mem2 | exact mem3 | exact mem4 | exact mem5)) rfl rfl ?_ | refine newI (fun b hb hn => ?_) | refine storeX 0 rfl Siz.eq rfl rfl (by simp [Value.oneCell']) (by simp) ?_ | refine storeX 1 rfl Siz.eq rfl rfl (by simp [Value.oneCell']) (by simp) ?_ | refine storeX 2 rfl Siz.eq rfl rfl (by simp [Value.oneCell']) (by simp) ?_ | refine storeX 3 rfl Siz.eq rfl rfl (by simp [Value.oneCell']) (by simp) ?_ | refine storeX 4 rfl Siz.eq rfl rfl (by simp [Value.oneCell']) (by simp) ?_ | refine storeX 5 rfl Siz.eq rfl rfl (by simp [Value.oneCell']) (by simp) ?_ | refine storeX 6 rfl Siz.eq rfl rfl (by simp [Value.oneCell']) (by simp) ?_) <;> simp (disch := omega) only [push_cast, Nat.reduceEqDiff]))
  exact finIs hL rfl
structure FnRI (w0 : World) (b2 : Nat) (nm : List UInt8) (a : Option Addr) (l : List Fld) (c : Nat) (L0 : Own) (i : Nat) (wb : World) (e : Env) (ds : List Deferred) (L : Own) : Prop where
  hw : wb = w0
  hds : ds = []
  o : L = L0
  il : i ≤ l.length
  no : ∀ j g, j < i → l[j]? = some g → decide (g.nm = nm) = false
  h1 : e 1 = str nm
  h12 : e 12 = .slice a l.length c
  h13 : e 13 = i64 l.length
  h14 : e 14 = i64 i
theorem findR_walk (w : World) (lo : Nat) (hlo : lo ≤ w.heap.size) (a : Option Addr) (l : List Fld) (c : Nat) (na : Option Addr) (nt : List NoteT) (nc : Nat) (h : SchAt w lo a l c na nt nc) (nm : List UInt8) :
    Calls Tryd.prog 33 #[schV a l c na nt nc, str nm] w (Rets w (Is (i64 (findP l nt nm)))) := by
  refine enterT (args := [schV a l c na nt nc, str nm]) Tryd.func33 rfl Tryd.ntmps33 (congrArg Array.toList Tryd.results33) (by kernel_rfl) (by simp) (Sy.refl w) ?_
  simp (disch := omega) only [push_cast, Nat.reduceEqDiff, schV]
  refine newI (fun b2 hb2 hn2 => ?_)
  have hL : ∀ p ∈ [(b2, Obj.cells #[.slice a l.length c, .slice na nt.length nc] 46 (0, 0))], w.heap.size ≤ p.1 := by
    intro p hp; rw [List.mem_singleton.1 hp]; exact hb2
  simp (disch := omega) only [push_cast, Nat.reduceEqDiff]
  repeat' (first | ((first | refine guardX_t rfl (fun h => ?_) (fun h => ?_) | refine guardX_f rfl (fun h => ?_) (fun h => ?_) | refine condX_d (fun h => ?_) (fun h => ?_) | (refine guardX_bt rfl (fun h => ?_) (fun h => ?_) <;> (try subst h)) | (refine guardX_bf rfl (fun h => ?_) (fun h => ?_) <;> (try subst h)) | (refine condX_b (fun h => ?_) (fun h => ?_) <;> (try subst h)) | refine ldOne Shp.eq (by (first | exact mem0 | exact mem1 | exact mem2 | exact mem3 | exact mem4 | exact mem5)) rfl ?_ | refine loadX_agg Shp.eq (by (first | exact mem0 | exact mem1 | exact mem2 | exact mem3 | exact mem4 | exact mem5)) rfl rfl ?_ | refine newI (fun b hb hn => ?_) | refine storeX 0 rfl Siz.eq rfl rfl (by simp [Value.oneCell']) (by simp) ?_ | refine storeX 1 rfl Siz.eq rfl rfl (by simp [Value.oneCell']) (by simp) ?_ | refine storeX 2 rfl Siz.eq rfl rfl (by simp [Value.oneCell']) (by simp) ?_ | refine storeX 3 rfl Siz.eq rfl rfl (by simp [Value.oneCell']) (by simp) ?_ | refine storeX 4 rfl Siz.eq rfl rfl (by simp [Value.oneCell']) (by simp) ?_ | refine storeX 5 rfl Siz.eq rfl rfl (by simp [Value.oneCell']) (by simp) ?_ | refine storeX 6 rfl Siz.eq rfl rfl (by simp [Value.oneCell']) (by simp) ?_) <;> simp (disch := omega) only [push_cast, Nat.reduceEqDiff]))
  have k1 := fun w' (L' : Own) (hL' : ∀ p ∈ L', w.heap.size ≤ p.1) hw' => h.sy hlo (w' := w') (M := L') hw' (fun p hp => Nat.le_trans hlo (hL' p hp))
  refine callV en_24 (callX_newR (fun w' hw' => checkR_walk w' lo (Nat.le_trans hlo hw'.size) l a c (k1 w' _ hL hw').hr h.hc h.hc2 nt na nc (k1 w' _ hL hw').hn h.hnc h.hnc2) (fun v M hM hMn ⟨pa, pc, hv, _⟩ => ?_))
  subst hv
  have hLM : ∀ p ∈ ([(b2, Obj.cells #[.slice a l.length c, .slice na nt.length nc] 46 (0, 0))] ++ M), w.heap.size ≤ p.1 := fun p hp => by
    rcases List.mem_append.1 hp with hp | hp
    · exact hL p hp
    · exact hM p hp
  simp (disch := omega) only [push_cast, Nat.reduceEqDiff]
  rw [V_cond]
  simp (disch := omega) only [push_cast, Nat.reduceEqDiff]
  refine condX_d (fun h1 => ?_) (fun h1 => ?_)
  · simp (disch := omega) only [push_cast, Nat.reduceEqDiff]
    repeat' (first | ((first | refine guardX_t rfl (fun h => ?_) (fun h => ?_) | refine guardX_f rfl (fun h => ?_) (fun h => ?_) | refine condX_d (fun h => ?_) (fun h => ?_) | (refine guardX_bt rfl (fun h => ?_) (fun h => ?_) <;> (try subst h)) | (refine guardX_bf rfl (fun h => ?_) (fun h => ?_) <;> (try subst h)) | (refine condX_b (fun h => ?_) (fun h => ?_) <;> (try subst h)) | refine ldOne Shp.eq (by (first | exact mem0 | exact mem1 | exact mem2 | exact mem3 | exact mem4 | exact mem5)) rfl ?_ | refine loadX_agg Shp.eq (by (first | exact mem0 | exact mem1 | exact mem2 | exact mem3 | exact mem4 | exact mem5)) rfl rfl ?_ | refine newI (fun b hb hn => ?_) | refine storeX 0 rfl Siz.eq rfl rfl (by simp [Value.oneCell']) (by simp) ?_ | refine storeX 1 rfl Siz.eq rfl rfl (by simp [Value.oneCell']) (by simp) ?_ | refine storeX 2 rfl Siz.eq rfl rfl (by simp [Value.oneCell']) (by simp) ?_ | refine storeX 3 rfl Siz.eq rfl rfl (by simp [Value.oneCell']) (by simp) ?_ | refine storeX 4 rfl Siz.eq rfl rfl (by simp [Value.oneCell']) (by simp) ?_ | refine storeX 5 rfl Siz.eq rfl rfl (by simp [Value.oneCell']) (by simp) ?_ | refine storeX 6 rfl Siz.eq rfl rfl (by simp [Value.oneCell']) (by simp) ?_) <;> simp (disch := omega) only [push_cast, Nat.reduceEqDiff]))
    have hm : mayP l nt = false := by rw [mayP_eq]; exact decide_eq_false h1
    exact finIs hLM (by simp [findP, hm])
  have hm : mayP l nt = true := by rw [mayP_eq]; exact decide_eq_true (Decidable.not_not.1 h1)
  have hl63 := Nat.le_trans h.hc h.hc2
  simp (disch := omega) only [push_cast, Nat.reduceEqDiff]
  repeat' (first | ((first | refine guardX_t rfl (fun h => ?_) (fun h => ?_) | refine guardX_f rfl (fun h => ?_) (fun h => ?_) | refine condX_d (fun h => ?_) (fun h => ?_) | (refine guardX_bt rfl (fun h => ?_) (fun h => ?_) <;> (try subst h)) | (refine guardX_bf rfl (fun h => ?_) (fun h => ?_) <;> (try subst h)) | (refine condX_b (fun h => ?_) (fun h => ?_) <;> (try subst h)) | refine ldOne Shp.eq (by (first | exact mem0 | exact mem1 | exact mem2 | exact mem3 | exact mem4 | exact mem5)) rfl ?_ | refine loadX_agg Shp.eq (by (first | exact mem0 | exact mem1 | exact mem2 | exact mem3 | exact mem4 | exact mem5)) rfl rfl ?_ | refine newI (fun b hb hn => ?_) | refine storeX 0 rfl Siz.eq rfl rfl (by simp [Value.oneCell']) (by simp) ?_ | refine storeX 1 rfl Siz.eq rfl rfl (by simp [Value.oneCell']) (by simp) ?_ | refine storeX 2 rfl Siz.eq rfl rfl (by simp [Value.oneCell']) (by simp) ?_ | refine storeX 3 rfl Siz.eq rfl rfl (by simp [Value.oneCell']) (by simp) ?_ | refine storeX 4 rfl Siz.eq rfl rfl (by simp [Value.oneCell']) (by simp) ?_ | refine storeX 5 rfl Siz.eq rfl rfl (by simp [Value.oneCell']) (by simp) ?_ | refine storeX 6 rfl Siz.eq rfl rfl (by simp [Value.oneCell']) (by simp) ?_) <;> simp (disch := omega) only [push_cast, Nat.reduceEqDiff]))
  rw [V_block]
  simp (disch := omega) only [push_cast, Nat.reduceEqDiff]
  refine loopW (G := Nat) (FnRI w b2 nm a l c [(b2, Obj.cells #[.slice a l.length c, .slice na nt.length nc] 46 (0, 0))]) (fun i => l.length - i) 0 [(b2, Obj.cells #[.slice a l.length c, .slice na nt.length nc] 46 (0, 0))] (fun w hw => hw.drop (List.sublist_append_left _ _) (fun p hp => .inr (hLM p hp))) (by kernel_rfl) ⟨rfl, rfl, rfl, by omega, by omega, rfl, rfl, rfl, rfl⟩ ?_
  rintro i wb e ds L ⟨rfl, rfl, rfl, hil, hno, h1, h12, h13, h14⟩
  simp (disch := omega) only [push_cast, Nat.reduceEqDiff, h1, h12, h13, h14]
  rw [V_cond]
  simp (disch := omega) only [push_cast, Nat.reduceEqDiff, h1, h12, h13, h14]
  refine condX_d (fun hlt => ?_) (fun hge => ?_)
  · obtain ⟨f, hf⟩ : ∃ f, l[i]? = some f := ⟨_, List.getElem?_eq_getElem (by omega)⟩
    obtain ⟨b, off, rfl, hb⟩ : ∃ b off, a = some ⟨b, off, none⟩ ∧ b < lo := by
      obtain ⟨f0, l0, rfl⟩ : ∃ f l', l = f :: l' := List.exists_cons_of_ne_nil (by rintro rfl; simp at hf)
      exact h.hr.some_of
    obtain ⟨fa, fc, x1, x2, x3, x4, x5, x6⟩ := h.hr.get i hf
    simp (disch := omega) only [push_cast, Nat.reduceEqDiff, h1, h12, h13, h14]
    rw [V_block]
    simp (disch := omega) only [push_cast, Nat.reduceEqDiff, h1, h12, h13, h14]
    refine ldAggF Shp.eq x2 rfl (out_of (fun p hp => Nat.lt_of_lt_of_le (Nat.lt_of_lt_of_le x1 hlo) (hL p hp))) ?_
    simp (disch := omega) only [push_cast, Nat.reduceEqDiff, h1, h12, h13, h14, Fld.cells]
    refine newI (fun b6 hb6 hn6 => ?_)
    simp (disch := omega) only [push_cast, Nat.reduceEqDiff, h1, h12, h13, h14]
    repeat' (first | ((first | refine guardX_t rfl (fun h => ?_) (fun h => ?_) | refine guardX_f rfl (fun h => ?_) (fun h => ?_) | refine condX_d (fun h => ?_) (fun h => ?_) | (refine guardX_bt rfl (fun h => ?_) (fun h => ?_) <;> (try subst h)) | (refine guardX_bf rfl (fun h => ?_) (fun h => ?_) <;> (try subst h)) | (refine condX_b (fun h => ?_) (fun h => ?_) <;> (try subst h)) | refine ldOne Shp.eq (by (first | exact mem0 | exact mem1 | exact mem2 | exact mem3 | exact mem4 | exact mem5)) rfl ?_ | refine loadX_agg Shp.eq (by (first | exact mem0 | exact mem1 | exact mem2 | exact mem3 | exact mem4 | exact mem5)) rfl rfl ?_ | refine newI (fun b hb hn => ?_) | refine storeX 0 rfl Siz.eq rfl rfl (by simp [Value.oneCell']) (by simp) ?_ | refine storeX 1 rfl Siz.eq rfl rfl (by simp [Value.oneCell']) (by simp) ?_ | refine storeX 2 rfl Siz.eq rfl rfl (by simp [Value.oneCell']) (by simp) ?_ | refine storeX 3 rfl Siz.eq rfl rfl (by simp [Value.oneCell']) (by simp) ?_ | refine storeX 4 rfl Siz.eq rfl rfl (by simp [Value.oneCell']) (by simp) ?_ | refine storeX 5 rfl Siz.eq rfl rfl (by simp [Value.oneCell']) (by simp) ?_ | refine storeX 6 rfl Siz.eq rfl rfl (by simp [Value.oneCell']) (by simp) ?_) <;> simp (disch := omega) only [push_cast, Nat.reduceEqDiff, h1, h12, h13, h14]))
    have hL6 : ∀ p ∈ [(b6, Obj.cells #[str f.nm, .bool f.nl, i64 f.k, i64 f.wd, i64 f.id, i64 f.ix, .slice fa f.sub.length fc] 26 (0, 0)), (b2, Obj.cells #[.slice (some ⟨b, off, none⟩) l.length c, .slice na nt.length nc] 46 (0, 0))], wb.heap.size ≤ p.1 := by
      intro p hp
      simp only [List.mem_cons, List.mem_nil_iff, or_false] at hp
      rcases hp with rfl | rfl <;> assumption
    rw [V_cond]
    simp (disch := omega) only [push_cast, Nat.reduceEqDiff, h1, h12, h13, h14]
    refine condX_d (fun hnm => ?_) (fun hnm => ?_)
    · simp (disch := omega) only [push_cast, Nat.reduceEqDiff, h1, h12, h13, h14]
      repeat' (first | ((first | refine guardX_t rfl (fun h => ?_) (fun h => ?_) | refine guardX_f rfl (fun h => ?_) (fun h => ?_) | refine condX_d (fun h => ?_) (fun h => ?_) | (refine guardX_bt rfl (fun h => ?_) (fun h => ?_) <;> (try subst h)) | (refine guardX_bf rfl (fun h => ?_) (fun h => ?_) <;> (try subst h)) | (refine condX_b (fun h => ?_) (fun h => ?_) <;> (try subst h)) | refine ldOne Shp.eq (by (first | exact mem0 | exact mem1 | exact mem2 | exact mem3 | exact mem4 | exact mem5)) rfl ?_ | refine loadX_agg Shp.eq (by (first | exact mem0 | exact mem1 | exact mem2 | exact mem3 | exact mem4 | exact mem5)) rfl rfl ?_ | refine newI (fun b hb hn => ?_) | refine storeX 0 rfl Siz.eq rfl rfl (by simp [Value.oneCell']) (by simp) ?_ | refine storeX 1 rfl Siz.eq rfl rfl (by simp [Value.oneCell']) (by simp) ?_ | refine storeX 2 rfl Siz.eq rfl rfl (by simp [Value.oneCell']) (by simp) ?_ | refine storeX 3 rfl Siz.eq rfl rfl (by simp [Value.oneCell']) (by simp) ?_ | refine storeX 4 rfl Siz.eq rfl rfl (by simp [Value.oneCell']) (by simp) ?_ | refine storeX 5 rfl Siz.eq rfl rfl (by simp [Value.oneCell']) (by simp) ?_ | refine storeX 6 rfl Siz.eq rfl rfl (by simp [Value.oneCell']) (by simp) ?_) <;> simp (disch := omega) only [push_cast, Nat.reduceEqDiff, h1, h12, h13, h14]))
      refine finIs hL6 ?_
      rw [findP, if_pos hm, idxF_at hno hf (decide_eq_true hnm)]
    · simp (disch := omega) only [push_cast, Nat.reduceEqDiff, h1, h12, h13, h14]
      refine ⟨i + 1, _, fun w hw => hw.mid [] [_] (fun p hp => by rw [List.mem_singleton.1 hp]; exact hb6), ⟨rfl, rfl, rfl, by omega, fun j g hj hg => ?_, h1, h12, h13, by simp only [upd]; rfl⟩, by omega⟩
      rcases Nat.lt_or_ge j i with hji | hji
      · exact hno j g hji hg
      · obtain rfl : j = i := by omega
        rw [hf] at hg; cases hg
        exact decide_eq_false hnm
  · obtain rfl : i = l.length := by omega
    simp (disch := omega) only [push_cast, Nat.reduceEqDiff, h1, h12, h13, h14]
    repeat' (first | ((first | refine guardX_t rfl (fun h => ?_) (fun h => ?_) | refine guardX_f rfl (fun h => ?_) (fun h => ?_) | refine condX_d (fun h => ?_) (fun h => ?_) | (refine guardX_bt rfl (fun h => ?_) (fun h => ?_) <;> (try subst h)) | (refine guardX_bf rfl (fun h => ?_) (fun h => ?_) <;> (try subst h)) | (refine condX_b (fun h => ?_) (fun h => ?_) <;> (try subst h)) | refine ldOne Shp.eq (by (first | exact mem0 | exact mem1 | exact mem2 | exact mem3 | exact mem4 | exact mem5)) rfl ?_ | refine loadX_agg Shp.eq (by (first | exact mem0 | exact mem1 | exact mem2 | exact mem3 | exact mem4 | exact mem5)) rfl rfl ?_ | refine newI (fun b hb hn => ?_) | refine storeX 0 rfl Siz.eq rfl rfl (by simp [Value.oneCell']) (by simp) ?_ | refine storeX 1 rfl Siz.eq rfl rfl (by simp [Value.oneCell']) (by simp) ?_ | refine storeX 2 rfl Siz.eq rfl rfl (by simp [Value.oneCell']) (by simp) ?_ | refine storeX 3 rfl Siz.eq rfl rfl (by simp [Value.oneCell']) (by simp) ?_ | refine storeX 4 rfl Siz.eq rfl rfl (by simp [Value.oneCell']) (by simp) ?_ | refine storeX 5 rfl Siz.eq rfl rfl (by simp [Value.oneCell']) (by simp) ?_ | refine storeX 6 rfl Siz.eq rfl rfl (by simp [Value.oneCell']) (by simp) ?_) <;> simp (disch := omega) only [push_cast, Nat.reduceEqDiff, h1, h12, h13, h14]))
    refine finIs hL ?_
    rw [findP, if_pos hm, idxF_none hno]
end Go.Proofs.YthdejilihaombaaDoor
