/- YtjkogfiidhjpcaaDoor: walks, part 135: a field's zero value: the program's. -/
import Derived.Test.YtjkogfiidhjpcaaDoorW134
import Derived.Test.YtjkogfiidhjpcaaDoorW100
namespace Go.Proofs.YtjkogfiidhjpcaaDoor
open Go Go.K
set_option maxRecDepth 100000
set_option linter.unusedVariables false
set_option linter.unusedSimpArgs false
set_option maxHeartbeats 4000000
theorem semT_weakZ {c : Cfg} {code : Code} {Q : Post} {wb : World} {e : Env} {ds : List Deferred} {L L' : Own} (hs : ∀ w, Sy wb L w → Sy wb L' w) (h : SemT c (tag code) (tag Q) wb e ds L') : SemT c (tag code) (tag Q) wb e ds L := fun a w hr hw => h a w hr (hs w hw)
theorem za_perm6 (o b6 : Nat × Obj) (A B C D : Own) : (o :: (A ++ (B ++ (C ++ (b6 :: D))))).Perm (b6 :: (o :: (A ++ (B ++ (C ++ D))))) := by
  have h1 : (A ++ (B ++ (C ++ b6 :: D))).Perm (b6 :: (A ++ (B ++ (C ++ D)))) := by
    have := List.perm_middle (a := b6) (l₁ := A ++ (B ++ C)) (l₂ := D)
    simpa [List.append_assoc] using this
  exact (h1.cons o).trans (List.Perm.swap _ _ _)
theorem za_in (o b6 : Nat × Obj) (A B D : Own) : (b6 :: (A ++ (B ++ o :: D))).Perm (A ++ (B ++ o :: b6 :: D)) := by
  have := (List.perm_middle (a := b6) (l₁ := A ++ (B ++ [o])) (l₂ := D)).symm
  simpa [List.append_assoc] using this
structure ZpI (w0 : World) (vs : Nat → List Vl) (N : Nat) (H : Env → Nat → Prop) (b1 b2 b3 b4 : Nat) (f : Fld) (a : Option Addr) (c : Nat) (i : Nat) (wb : World) (e : Env) (ds : List Deferred) (L : Own) : Prop where
  hw : wb = w0
  hds : ds = []
  hi : i ≤ N
  h2 : e 2 = .pointer (some ⟨b2, 0, none⟩)
  h3 : e 3 = .pointer (some ⟨b3, 0, none⟩)
  h4 : e 4 = .pointer (some ⟨b4, 0, none⟩)
  hH : H e i
  o : ∃ (x : Rw) (its : List Rw), x.OK ∧ x.n = (vs i).length ∧ ZeK (vs i) its (x.cs.take (x.n * 4)) ∧ (∀ p ∈ x.own, w0.heap.size ≤ p.1) ∧ (∀ p ∈ ownR its, w0.heap.size ≤ p.1) ∧ L = x.own ++ (ownR its ++ oVl b3 x.way :: zoB b1 b2 b4 f a c)
def ZpOK (d : Nat) : Prop := ∀ (w : World) (lo : Nat) (ind : Bool) (f : Fld) (a : Option Addr) (c : Nat), lo ≤ w.heap.size → okZ d ind f → FlAt w lo f a c →
  Calls Tryd.prog 40 #[.agg (f.cells a c).toArray] w (RetsN w (ZoS (zeroD d f)))
theorem zero_step (d : Nat) (hT : ZpOK d) : ZpOK (d + 1) := by
  intro w lo ind f a c hlo hok hA
  have hkids := few_kids hok
  refine enterT (args := [.agg (f.cells a c).toArray]) Tryd.func40 rfl Tryd.ntmps40 (congrArg Array.toList Tryd.results40) (by kernel_rfl) (by simp) (Sy.refl w) ?_
  simp (disch := omega) only [push_cast, Nat.reduceEqDiff, Fld.cells]
  refine newI (fun b1 hb1 hn1 => ?_)
  simp (disch := omega) only [push_cast, Nat.reduceEqDiff, Fld.cells]
  refine newI (fun b2 hb2 hn2 => ?_)
  simp (disch := omega) only [push_cast, Nat.reduceEqDiff, Fld.cells]
  refine loadX_agg Shp.eq mem1 rfl rfl ?_
  simp (disch := omega) only [push_cast, Nat.reduceEqDiff]
  have hL2 : ∀ x y : Obj, ∀ p ∈ [(b2, x), (b1, y)], w.heap.size ≤ p.1 := fun x y p hp => by
    simp only [List.mem_cons, List.mem_nil_iff, or_false] at hp
    rcases hp with rfl | rfl <;> assumption
  refine callV en_63 (callX_is (fun w' hw' => lets_walk w' lo (Nat.le_trans hlo hw'.size) f a c (hA.sy hlo hw' (hL2 _ _))) ?_)
  simp (disch := omega) only [push_cast, Nat.reduceEqDiff]
  rw [V_cond]
  simp (disch := omega) only [push_cast, Nat.reduceEqDiff]
  refine condX_b (fun hl => ?_) (fun hl => ?_)
  · simp (disch := omega) only [push_cast, Nat.reduceEqDiff]
    refine storeX 0 rfl Siz.eq rfl rfl (by simp [Value.oneCell']) (by simp) ?_
    simp (disch := omega) only [push_cast, Nat.reduceEqDiff]
    refine loadX_agg Shp.eq mem0 rfl rfl ?_
    simp (disch := omega) only [push_cast, Nat.reduceEqDiff]
    exact fun w' hw' => ⟨_, [], rfl, by simpa using hw'.end (hL2 _ _), by simp, [nilRw], none, 0, by rw [zero_null hl]; rfl, rfl, by rw [zero_null hl]; exact zeV_nil _ (by simp)⟩
  have hl : ¬ letsP f = true := by rw [hl]; simp
  simp (disch := omega) only [push_cast, Nat.reduceEqDiff]
  refine newI (fun b3 hb3 hn3 => ?_)
  simp (disch := omega) only [push_cast, Nat.reduceEqDiff]
  refine loadX_agg Shp.eq mem2 rfl rfl ?_
  simp (disch := omega) only [push_cast, Nat.reduceEqDiff]
  refine newI (fun b4 hb4 hn4 => ?_)
  simp (disch := omega) only [push_cast, Nat.reduceEqDiff]
  refine storeX 0 rfl Siz.eq rfl rfl (by simp [Value.oneCell']) (by simp) ?_
  simp (disch := omega) only [push_cast, Nat.reduceEqDiff]
  have hL : ∀ x y z u : Obj, ∀ p ∈ [(b4, x), (b3, y), (b2, z), (b1, u)], w.heap.size ≤ p.1 := fun x y z u p hp => by
    simp only [List.mem_cons, List.mem_nil_iff, or_false] at hp
    rcases hp with rfl | rfl | rfl | rfl <;> assumption
  have hBn : ∀ (a : Option Addr), ∀ p ∈ zoB b1 b2 b4 f a c, w.heap.size ≤ p.1 := fun a p hp => by
    simp only [zoB, List.mem_cons, List.mem_nil_iff, or_false] at hp
    rcases hp with rfl | rfl | rfl <;> assumption
  refine ldOne Shp.eq mem0 rfl ?_
  simp (disch := omega) only [push_cast, Nat.reduceEqDiff]
  rw [V_block]
  simp (disch := omega) only [push_cast, Nat.reduceEqDiff]
  rw [V_cond]
  simp (disch := omega) only [push_cast, Nat.reduceEqDiff]
  refine condX_d (fun h14 => ?_) (fun h14 => ?_)
  · have hwd := wid14 hok.1.1.2.1 h14
    simp (disch := omega) only [push_cast, Nat.reduceEqDiff]
    refine ldOne Shp.eq mem0 rfl ?_
    simp (disch := omega) only [push_cast, Nat.reduceEqDiff]
    refine callV en_64 (callX_is (fun w' hw' => repeat_walk w' f.wd (by omega) (by omega)) ?_)
    simp (disch := omega) only [push_cast, Nat.reduceEqDiff]
    refine storeX 1 rfl Siz.eq rfl rfl (by simp [Value.oneCell']) (by simp) ?_
    simp (disch := omega) only [push_cast, Nat.reduceEqDiff]
    refine loadX_agg Shp.eq mem1 rfl rfl ?_
    simp (disch := omega) only [push_cast, Nat.reduceEqDiff]
    refine storeX 2 rfl Siz.eq rfl rfl (by simp [Value.oneCell']) (by simp) ?_
    simp (disch := omega) only [push_cast, Nat.reduceEqDiff]
    refine loadX_agg Shp.eq mem2 rfl rfl ?_
    simp (disch := omega) only [push_cast, Nat.reduceEqDiff]
    exact fun w' hw' => ⟨_, [], rfl, by simpa using hw'.end (hL _ _ _ _), by simp, [nilRw], none, 0, by rw [zero_14 hl h14]; rfl, rfl, by rw [zero_14 hl h14]; exact zeV_nil _ (by simp; omega)⟩
  simp (disch := omega) only [push_cast, Nat.reduceEqDiff]
  rw [V_cond]
  simp (disch := omega) only [push_cast, Nat.reduceEqDiff]
  refine condX_d (fun h16 => ?_) (fun h16 => ?_)
  · have hwd := wid16 hok.1.1.2.1 h16
    obtain ⟨g, hg, hg2⟩ := one_child hok (by omega)
    obtain ⟨b, off, ga, gc, rfl, hb, hat, hG⟩ := hA.get (i := 0) (g := g) (by rw [hg]; rfl)
    have hlen : 0 < f.sub.length := by rw [hg]; simp
    have hBn := hBn (some ⟨b, off, none⟩)
    simp (disch := omega) only [push_cast, Nat.reduceEqDiff]
    refine ldOne Shp.eq mem0 rfl ?_
    simp (disch := omega) only [push_cast, Nat.reduceEqDiff]
    rw [V_block]
    simp (disch := omega) only [push_cast, Nat.reduceEqDiff]
    refine loopW (G := Nat) (ZpI w (fun i => List.replicate i (zeroD d g)) f.wd.toNat (fun e i => e 23 = i64 f.wd ∧ e 24 = i64 i) b1 b2 b3 b4 f (some ⟨b, off, none⟩) c) (fun i => f.wd.toNat - i) 0 (oVl b3 (.slice none 0 0) :: zoB b1 b2 b4 f (some ⟨b, off, none⟩) c) (fun w hw => hw.perm (List.Perm.swap _ _ _)) (by kernel_rfl) ⟨rfl, rfl, by omega, rfl, rfl, rfl, ⟨rfl, rfl⟩, nilRw, [], nilRw_ok, rfl, by rw [show List.replicate 0 (zeroD d g) = [] from rfl, ZeK]; exact ⟨rfl, rfl⟩, (fun p hp => by simp [Rw.own, nilRw] at hp), (fun p hp => by simp [ownR] at hp), rfl⟩ ?_
    rintro i wb e ds L ⟨rfl, rfl, hi, h2, h3, h4, ⟨h23, hI⟩, x, its, hxok, hxl, hzk, hxn, hin, rfl⟩
    have hxl : x.n = i := by rw [hxl, List.length_replicate]
    have hsm : x.n + 1 ≤ 1000000 := by omega
    have hS0 : ZaS wb (zoB b1 b2 b4 f (some ⟨b, off, none⟩) c) x its b3 (zeroD d g) (.bool false) (.bool false) (.bool false) (x.own ++ (ownR its ++ oVl b3 x.way :: zoB b1 b2 b4 f (some ⟨b, off, none⟩) c)) 0 := rfl
    have hsubB : ∀ p ∈ [oTy b4 f.k f.wd f.id f.ix (some ⟨b, off, none⟩) f.sub.length c], p ∈ zoB b1 b2 b4 f (some ⟨b, off, none⟩) c := fun p hp => by rw [List.mem_singleton.1 hp]; exact .head _
    simp (disch := omega) only [push_cast, Nat.reduceEqDiff, h2, h3, h4, h23, hI]
    rw [V_cond]
    simp (disch := omega) only [push_cast, Nat.reduceEqDiff, h2, h3, h4, h23, hI]
    refine condX_d (fun hlt => ?_) (fun hge => ?_)
    rotate_left
    · simp (disch := omega) only [push_cast, Nat.reduceEqDiff, h2, h3, h4, hI]
      have hL4 : ∀ x y z u : Obj, ∀ p ∈ [(b2, x), (b3, y), (b4, z), (b1, u)], wb.heap.size ≤ p.1 := fun x y z u p hp => by
        simp only [List.mem_cons, List.mem_nil_iff, or_false] at hp
        rcases hp with rfl | rfl | rfl | rfl <;> assumption
      refine loadX_agg Shp.eq (hS0.v_mem (by omega)) rfl rfl ?_
      simp (disch := omega) only [push_cast, Nat.reduceEqDiff, h2, h3]
      refine storeX_weak (fun w hw => hw.perm (zo_perm _ _ _ _ _ _)) (storeX 0 rfl Siz.eq rfl rfl (by simp [Value.oneCell', Rw.way]) (by simp) ?_)
      simp (disch := omega) only [push_cast, Nat.reduceEqDiff, h2, h3]
      refine loadX_agg Shp.eq mem0 rfl rfl ?_
      simp (disch := omega) only [push_cast, Nat.reduceEqDiff]
      exact fun w' hw' => ⟨_, ownR (x :: its), rfl, (by rw [ownR_cons]; exact hw'.left (A := [_, _, _, _]) (hL4 _ _ _ _)), (by
        rw [ownR_cons]
        intro p hp
        rcases List.mem_append.1 hp with hp | hp
        · exact hxn p hp
        · exact hin p hp), x :: its, x.at_, x.c, by rw [zero_16 hl h16 (by rw [hg]; rfl)]; exact way_cells (by rw [hxl, List.length_replicate]; omega), rfl, by rw [zero_16 hl h16 (by rw [hg]; rfl)]; exact zeV_list (by simp) hxok (by rw [hxl, List.length_replicate]; omega) (by rw [show f.wd.toNat = i by omega]; exact hzk)⟩
    simp (disch := omega) only [push_cast, Nat.reduceEqDiff, h2, h3, h4, hI]
    rw [V_block]
    simp (disch := omega) only [push_cast, Nat.reduceEqDiff, h2, h3, h4, hI]
    refine freeIT [0, 2, 3, 4, 5] [1, 6, 7, 8, 9, 10] [(1, []), (6, []), (7, [6]), (8, [1, 7]), (9, [8]), (10, [8, 9])] [oTy b4 f.k f.wd f.id f.ix (some ⟨b, off, none⟩) f.sub.length c] (ZaR wb (zoB b1 b2 b4 f (some ⟨b, off, none⟩) c) x its b3 (zeroD d g) (fun e => e 2 = .pointer (some ⟨b2, 0, none⟩) ∧ e 3 = .pointer (some ⟨b3, 0, none⟩) ∧ e 4 = .pointer (some ⟨b4, 0, none⟩) ∧ e 23 = i64 f.wd ∧ e 24 = i64 i ∧ e 26 = .pointer (some ⟨b3, 3, none⟩) ∧ e 31 = .agg (g.cells ga gc).toArray) 27 32 33 34 35 1 6 7 8 9 10) (by kernel_rfl) mixed (by kernel_rfl) (by kernel_rfl) (fun D e ds L h => stab_mem (fun p hp => h.o.base_mem p (hsubB p hp)) (by simp) (h.o.new hBn hxn hin hb3)) ?_ ?_ (stab_mem (fun p hp => hS0.base_mem p (hsubB p hp)) (by simp) (hS0.new hBn hxn hin hb3)) ?_
    · intro p hp D e ds L hD hdep I
      obtain ⟨h2, h3, h4, h23, hI, eA, eC⟩ := I.he
      obtain rfl := I.hds
      have hnew := I.o.new hBn hxn hin hb3
      simp only [List.mem_cons, List.mem_nil_iff, or_false] at hp
      rcases hp with rfl | rfl | rfl | rfl | rfl | rfl
      all_goals simp only [List.mem_cons, List.mem_nil_iff, or_false, forall_eq_or_imp, forall_eq, false_implies, implies_true] at hD hdep
      · simp (disch := omega) only [push_cast, Nat.reduceEqDiff, eA]
        refine ldOne Shp.eq (I.v_mem (I.off1 hD)) rfl ?_
        simp (disch := omega) only [push_cast, Nat.reduceEqDiff]
        exact ⟨_, fun w hw => hw, I.s1 hD ⟨by simpa [upd] using h2, by simpa [upd] using h3, by simpa [upd] using h4, by simpa [upd] using h23, by simpa [upd] using hI, by simpa [upd] using eA, by simpa [upd] using eC⟩ (by decide) (by decide) (by decide)⟩
      · simp (disch := omega) only [push_cast, Nat.reduceEqDiff, eC]
        refine callV en_40 (callX_new (fun w' hw' => hT w' lo _ g ga gc (Nat.le_trans hlo hw'.size) hg2 (hG.sy hlo hw' hnew)) (fun u M hM hMn hu => ?_))
        obtain ⟨its2, a2, c2, rfl, rfl, hZ⟩ := hu
        simp (disch := omega) only [push_cast, Nat.reduceEqDiff]
        exact ⟨_, fun w hw => hw, I.s6 hD hZ hM ⟨by simpa [upd] using h2, by simpa [upd] using h3, by simpa [upd] using h4, by simpa [upd] using h23, by simpa [upd] using hI, by simpa [upd] using eA, by simpa [upd] using eC⟩ (by decide) (by decide) (by decide)⟩
      · obtain ⟨its2, a2, c2, hZ, hi2, e6, hL7⟩ := I.call hdep hD
        simp (disch := omega) only [push_cast, Nat.reduceEqDiff, e6, Vl.cells]
        refine bs_27_1 (newI fun b7 hb7 hn7 => ?_)
        simp (disch := omega) only [push_cast, Nat.reduceEqDiff]
        exact ⟨_, fun w hw => hw, I.s7 hdep hD hZ hi2 hb7 hL7 ⟨by simpa [upd] using h2, by simpa [upd] using h3, by simpa [upd] using h4, by simpa [upd] using h23, by simpa [upd] using hI, by simpa [upd] using eA, by simpa [upd] using eC⟩ (by decide) (by decide) (by decide)⟩
      · have e1 := I.d1 hdep.1
        simp (disch := omega) only [push_cast, Nat.reduceEqDiff, e1]
        refine ZaS.app (I.row hdep.2 hD) hxok hxn hsm (fun x' L' L'' hsub hz => ?_)
        simp (disch := omega) only [push_cast, Nat.reduceEqDiff]
        exact ⟨L'', hsub, I.s8 hdep.1 hdep.2 hD hz ⟨by simpa [upd] using h2, by simpa [upd] using h3, by simpa [upd] using h4, by simpa [upd] using h23, by simpa [upd] using hI, by simpa [upd] using eA, by simpa [upd] using eC⟩ (by decide) (by decide) (by decide)⟩
      · simp (disch := omega) only [push_cast, Nat.reduceEqDiff, h3]
        exact ⟨_, fun w hw => hw, I.s9 ⟨by simpa [upd] using h2, by simpa [upd] using h3, by simpa [upd] using h4, by simpa [upd] using h23, by simpa [upd] using hI, by simpa [upd] using eA, by simpa [upd] using eC⟩ (by decide) (by decide)⟩
      · obtain ⟨its2, a2, c2, x', hZ, hi2, r3, r4, r5, r6, e8, rfl⟩ := I.app hdep.1 hD
        have eS := I.d9 hdep.2
        simp (disch := omega) only [push_cast, Nat.reduceEqDiff, eS, e8, oVl]
        refine storeX 0 rfl Siz.eq rfl rfl (by simp [Value.oneCell', Rw.way]) (by simp) ?_
        simp (disch := omega) only [push_cast, Nat.reduceEqDiff]
        exact ⟨_, fun w hw => hw, I.s10 hdep.1 hZ hi2 r3 r4 r5 r6 (by decide) (by decide)⟩
    · intro D e ds L hD I
      obtain ⟨h2, h3, h4, h23, hI, eA, eC⟩ := I.he
      obtain rfl := I.hds
      obtain ⟨its2, a2, c2, x', hZ, hi2, r3, r4, r5, r6, rfl⟩ := I.done (hD 10 (by simp))
      simp (disch := omega) only [push_cast, Nat.reduceEqDiff, h2, h3, h4, hI]
      exact ⟨i + 1, _, fun w hw => hw.perm (za_perm _ _ _ _ _), ⟨rfl, rfl, by omega, h2, h3, h4, ⟨h23, by simp only [upd]; rfl⟩, x', its ++ its2, r3, by rw [r4, hxl, List.length_replicate], by rw [r5, List.replicate_succ']; exact ZeK.append (ZeK.single hZ) hzk, r6, (fun p hp => by
      rw [ownR_append] at hp
      rcases List.mem_append.1 hp with hp | hp
      · exact hin p hp
      · exact hi2 p hp), by rw [ownR_append]⟩, by omega⟩
    simp (disch := omega) only [push_cast, Nat.reduceEqDiff, h2, h3, h4, hI]
    refine ldOne Shp.eq (.head _) rfl ?_
    simp (disch := omega) only [push_cast, Nat.reduceEqDiff, h2, h3, h4, hI]
    refine ldAggF Shp.eq hat rfl (out_of (fun p hp => Nat.lt_of_lt_of_le (Nat.lt_of_lt_of_le hb hlo) (hBn p (hsubB p hp)))) ?_
    simp (disch := omega) only [push_cast, Nat.reduceEqDiff, h2, h3, h4, hI, Fld.cells]
    exact ⟨rfl, ⟨h2, h3, h4, h23, hI, rfl, rfl⟩, (fun h => by simp at h), (by simp), rfl, (fun h => by simp at h)⟩
  simp (disch := omega) only [push_cast, Nat.reduceEqDiff]
  rw [V_cond]
  simp (disch := omega) only [push_cast, Nat.reduceEqDiff]
  refine condX_d (fun h17 => ?_) (fun h17 => ?_)
  rotate_left
  · simp (disch := omega) only [push_cast, Nat.reduceEqDiff]
    rw [V_cond]
    simp (disch := omega) only [push_cast, Nat.reduceEqDiff]
    refine condX_d (fun h18 => ?_) (fun h18 => ?_)
    · obtain ⟨g, hg, hg2⟩ := first_child hok h18
      obtain ⟨b, off, ga, gc, rfl, hb, hat, hG⟩ := hA.get hg
      have hlen : 0 < f.sub.length := (List.getElem?_eq_some_iff.1 hg).1
      simp (disch := omega) only [push_cast, Nat.reduceEqDiff]
      refine ldOne Shp.eq mem0 rfl ?_
      simp (disch := omega) only [push_cast, Nat.reduceEqDiff]
      refine ldAggF Shp.eq hat rfl (out_of (fun p hp => Nat.lt_of_lt_of_le (Nat.lt_of_lt_of_le hb hlo) (hL _ _ _ _ p hp))) ?_
      simp (disch := omega) only [push_cast, Nat.reduceEqDiff, Fld.cells]
      refine callV en_40 (callX_newR (fun w' hw' => hT w' lo _ g ga gc (Nat.le_trans hlo hw'.size) hg2 (hG.sy hlo hw' (hL _ _ _ _))) (fun u M hM hMn hu => ?_))
      obtain ⟨its, a2, c2, rfl, rfl, hZ⟩ := hu
      simp (disch := omega) only [push_cast, Nat.reduceEqDiff, Vl.cells]
      refine bs_27_1 (newI fun b5 hb5 hn5 => ?_)
      simp (disch := omega) only [push_cast, Nat.reduceEqDiff]
      refine storeX 2 rfl Siz.eq rfl rfl (by simp [Value.oneCell']) (by simp) ?_
      simp (disch := omega) only [push_cast, Nat.reduceEqDiff]
      refine loadX_agg Shp.eq mem2 rfl rfl ?_
      simp (disch := omega) only [push_cast, Nat.reduceEqDiff]
      refine storeX 3 rfl Siz.eq rfl rfl (by simp [Value.oneCell']) (by simp) ?_
      simp (disch := omega) only [push_cast, Nat.reduceEqDiff]
      refine loadX_agg Shp.eq mem3 rfl rfl ?_
      simp (disch := omega) only [push_cast, Nat.reduceEqDiff]
      exact fun w' hw' => ⟨_, ownR (⟨some b5, 1, 1, (zeroD d g).cells a2 c2⟩ :: its), rfl, (by rw [ownR_cons]; exact hw'.mid [_] [_, _, _, _] (hL _ _ _ _)), (by
        rw [ownR_cons]
        intro p hp
        rcases List.mem_append.1 hp with hp | hp
        · simp only [Rw.own, List.mem_singleton] at hp
          rw [hp]; exact hb5
        · exact hM p hp), ⟨some b5, 1, 1, (zeroD d g).cells a2 c2⟩ :: its, some ⟨b5, 0, none⟩, 1, by rw [zero_18 hl h18 hg]; rfl, rfl, by rw [zero_18 hl h18 hg]; exact zeV_list (x := ⟨some b5, 1, 1, (zeroD d g).cells a2 c2⟩) (by simp) (.inr ⟨by simp, Nat.le_refl _, by simp only [maxLen]; omega, rfl⟩) rfl (ZeK.single hZ)⟩
    simp (disch := omega) only [push_cast, Nat.reduceEqDiff]
    by_cases hin : f.k = 19 ∨ f.k = 20
    · obtain ⟨g, hg, hg2⟩ := one_child hok (by omega)
      obtain ⟨b, off, ga, gc, rfl, hb, hat, hG⟩ := hA.get (i := 0) (g := g) (by rw [hg]; rfl)
      have hlen : 0 < f.sub.length := by rw [hg]; simp
      rw [V_cond]
      simp (disch := omega) only [push_cast, Nat.reduceEqDiff]
      refine condX_d (fun h19 => ?_) (fun h19 => ?_)
      · simp (disch := omega) only [push_cast, Nat.reduceEqDiff]
        rw [V_cond]
        simp (disch := omega) only [push_cast, Nat.reduceEqDiff]
        refine condX_d (fun _ => ?_) (fun hn => absurd h19 hn)
        simp (disch := omega) only [push_cast, Nat.reduceEqDiff]
        refine ldOne Shp.eq mem0 rfl ?_
        simp (disch := omega) only [push_cast, Nat.reduceEqDiff]
        refine ldAggF Shp.eq hat rfl (out_of (fun p hp => Nat.lt_of_lt_of_le (Nat.lt_of_lt_of_le hb hlo) (hL _ _ _ _ p hp))) ?_
        simp (disch := omega) only [push_cast, Nat.reduceEqDiff, Fld.cells]
        refine callV en_40 (callX_newR (fun w' hw' => hT w' lo _ g ga gc (Nat.le_trans hlo hw'.size) hg2 (hG.sy hlo hw' (hL _ _ _ _))) (fun u M hM hMn hu => ?_))
        obtain ⟨its, a2, c2, rfl, rfl, hZ⟩ := hu
        simp (disch := omega) only [push_cast, Nat.reduceEqDiff, Vl.cells]
        refine storeX 2 rfl Siz.eq rfl rfl (by simp [Value.oneCell']) (by simp) ?_
        simp (disch := omega) only [push_cast, Nat.reduceEqDiff]
        refine loadX_agg Shp.eq mem2 rfl rfl ?_
        simp (disch := omega) only [push_cast, Nat.reduceEqDiff]
        exact fun w' hw' => ⟨_, ownR its, rfl, hw'.left (A := [_, _, _, _]) (hL _ _ _ _), hM, its, a2, c2, by rw [zero_in hl hin (by rw [hg]; rfl)]; rfl, rfl, by rw [zero_in hl hin (by rw [hg]; rfl)]; exact hZ⟩
      · simp (disch := omega) only [push_cast, Nat.reduceEqDiff]
        rw [V_cond]
        simp (disch := omega) only [push_cast, Nat.reduceEqDiff]
        refine condX_d (fun _ => ?_) (fun hn => absurd (show f.k = 20 by omega) hn)
        simp (disch := omega) only [push_cast, Nat.reduceEqDiff]
        refine ldOne Shp.eq mem0 rfl ?_
        simp (disch := omega) only [push_cast, Nat.reduceEqDiff]
        refine ldAggF Shp.eq hat rfl (out_of (fun p hp => Nat.lt_of_lt_of_le (Nat.lt_of_lt_of_le hb hlo) (hL _ _ _ _ p hp))) ?_
        simp (disch := omega) only [push_cast, Nat.reduceEqDiff, Fld.cells]
        refine callV en_40 (callX_newR (fun w' hw' => hT w' lo _ g ga gc (Nat.le_trans hlo hw'.size) hg2 (hG.sy hlo hw' (hL _ _ _ _))) (fun u M hM hMn hu => ?_))
        obtain ⟨its, a2, c2, rfl, rfl, hZ⟩ := hu
        simp (disch := omega) only [push_cast, Nat.reduceEqDiff, Vl.cells]
        refine storeX 2 rfl Siz.eq rfl rfl (by simp [Value.oneCell']) (by simp) ?_
        simp (disch := omega) only [push_cast, Nat.reduceEqDiff]
        refine loadX_agg Shp.eq mem2 rfl rfl ?_
        simp (disch := omega) only [push_cast, Nat.reduceEqDiff]
        exact fun w' hw' => ⟨_, ownR its, rfl, hw'.left (A := [_, _, _, _]) (hL _ _ _ _), hM, its, a2, c2, by rw [zero_in hl hin (by rw [hg]; rfl)]; rfl, rfl, by rw [zero_in hl hin (by rw [hg]; rfl)]; exact hZ⟩
    rw [V_cond]
    simp (disch := omega) only [push_cast, Nat.reduceEqDiff]
    refine condX_d (fun h19 => absurd (Or.inl h19) hin) (fun h19 => ?_)
    simp (disch := omega) only [push_cast, Nat.reduceEqDiff]
    rw [V_cond]
    simp (disch := omega) only [push_cast, Nat.reduceEqDiff]
    refine condX_d (fun h20 => absurd (Or.inr h20) hin) (fun h20 => ?_)
    simp (disch := omega) only [push_cast, Nat.reduceEqDiff]
    refine loadX_agg Shp.eq mem1 rfl rfl ?_
    simp (disch := omega) only [push_cast, Nat.reduceEqDiff]
    refine storeX 2 rfl Siz.eq rfl rfl (by simp [Value.oneCell']) (by simp) ?_
    simp (disch := omega) only [push_cast, Nat.reduceEqDiff]
    refine loadX_agg Shp.eq mem2 rfl rfl ?_
    simp (disch := omega) only [push_cast, Nat.reduceEqDiff]
    exact fun w' hw' => ⟨_, [], rfl, by simpa using hw'.end (hL _ _ _ _), by simp, [nilRw], none, 0, by rw [zero_else hl h14 h16 h17 h18 hin]; rfl, rfl, by rw [zero_else hl h14 h16 h17 h18 hin]; exact zeV_nil _ (by simp)⟩
  simp (disch := omega) only [push_cast, Nat.reduceEqDiff]
  refine ldOne Shp.eq mem0 rfl ?_
  simp (disch := omega) only [push_cast, Nat.reduceEqDiff]
  rw [V_block]
  simp (disch := omega) only [push_cast, Nat.reduceEqDiff]
  refine loopW (G := Nat) (ZpI w (fun i => (f.sub.take i).map (zeroD d)) f.sub.length (fun e i => e 40 = .slice a f.sub.length c ∧ e 41 = i64 f.sub.length ∧ e 42 = i64 i) b1 b2 b3 b4 f a c) (fun i => f.sub.length - i) 0 (oVl b3 (.slice none 0 0) :: zoB b1 b2 b4 f a c) (fun w hw => hw.perm (List.Perm.swap _ _ _)) (by kernel_rfl) ⟨rfl, rfl, by omega, rfl, rfl, rfl, ⟨rfl, rfl, rfl⟩, nilRw, [], nilRw_ok, rfl, by rw [show List.map (zeroD d) (List.take 0 f.sub) = [] from rfl, ZeK]; exact ⟨rfl, rfl⟩, (fun p hp => by simp [Rw.own, nilRw] at hp), (fun p hp => by simp [ownR] at hp), rfl⟩ ?_
  rintro i wb e ds L ⟨rfl, rfl, hi, h2, h3, h4, ⟨h40, h41, hI⟩, x, its, hxok, hxl, hzk, hxn, hin, rfl⟩
  have hxl : x.n = i := by rw [hxl, List.length_map, List.length_take]; omega
  have hsm : x.n + 1 ≤ 1000000 := by omega
  simp (disch := omega) only [push_cast, Nat.reduceEqDiff, h2, h3, h4, h40, h41, hI]
  rw [V_cond]
  simp (disch := omega) only [push_cast, Nat.reduceEqDiff, h2, h3, h4, h40, h41, hI]
  refine condX_d (fun hlt => ?_) (fun hge => ?_)
  rotate_left
  · obtain rfl : i = f.sub.length := by omega
    have hBn := hBn a
    have hS0 : ZaS wb (zoB b1 b2 b4 f a c) x its b3 (zeroD d f) (.bool false) (.bool false) (.bool false) (x.own ++ (ownR its ++ oVl b3 x.way :: zoB b1 b2 b4 f a c)) 0 := rfl
    simp (disch := omega) only [push_cast, Nat.reduceEqDiff, h2, h3, h4, hI]
    have hL4 : ∀ x y z u : Obj, ∀ p ∈ [(b2, x), (b3, y), (b4, z), (b1, u)], wb.heap.size ≤ p.1 := fun x y z u p hp => by
      simp only [List.mem_cons, List.mem_nil_iff, or_false] at hp
      rcases hp with rfl | rfl | rfl | rfl <;> assumption
    refine loadX_agg Shp.eq (hS0.v_mem (by omega)) rfl rfl ?_
    simp (disch := omega) only [push_cast, Nat.reduceEqDiff, h2, h3]
    refine storeX_weak (fun w hw => hw.perm (zo_perm _ _ _ _ _ _)) (storeX 0 rfl Siz.eq rfl rfl (by simp [Value.oneCell', Rw.way]) (by simp) ?_)
    simp (disch := omega) only [push_cast, Nat.reduceEqDiff, h2, h3]
    refine loadX_agg Shp.eq mem0 rfl rfl ?_
    simp (disch := omega) only [push_cast, Nat.reduceEqDiff]
    exact fun w' hw' => ⟨_, ownR (x :: its), rfl, (by rw [ownR_cons]; exact hw'.left (A := [_, _, _, _]) (hL4 _ _ _ _)), (by
        rw [ownR_cons]
        intro p hp
        rcases List.mem_append.1 hp with hp | hp
        · exact hxn p hp
        · exact hin p hp), x :: its, x.at_, x.c, by rw [zero_17 hl h17]; exact way_cells (by rw [hxl, List.length_map]), rfl, by rw [zero_17 hl h17]; exact zeV_list (by simp) hxok (by rw [hxl, List.length_map]) (by rw [List.take_length] at hzk; exact hzk)⟩
  obtain ⟨g, hg⟩ : ∃ g, f.sub[i]? = some g := ⟨_, List.getElem?_eq_getElem (by omega)⟩
  obtain ⟨b, off, ga, gc, rfl, hb, hat, hG⟩ := hA.get hg
  have hg2 := hok.2 g (List.mem_of_getElem? hg)
  have hBn := hBn (some ⟨b, off, none⟩)
  have hnew0 : ∀ p ∈ x.own ++ (ownR its ++ oVl b3 x.way :: zoB b1 b2 b4 f (some ⟨b, off, none⟩) c), wb.heap.size ≤ p.1 := ZaS.new (v := zeroD d g) (e6 := .bool false) (e7 := .bool false) (e8 := .bool false) hBn hxn hin hb3 (s := 0) rfl
  simp (disch := omega) only [push_cast, Nat.reduceEqDiff, h2, h3, h4, h40, h41, hI]
  rw [V_block]
  simp (disch := omega) only [push_cast, Nat.reduceEqDiff, h2, h3, h4, h40, h41, hI]
  refine ldAggF Shp.eq hat rfl (out_of (fun p hp => Nat.lt_of_lt_of_le (Nat.lt_of_lt_of_le hb hlo) (hnew0 p hp))) ?_
  simp (disch := omega) only [push_cast, Nat.reduceEqDiff, h2, h3, h4, h40, h41, hI, Fld.cells]
  refine newI (fun b6 hb6 hn6 => ?_)
  simp (disch := omega) only [push_cast, Nat.reduceEqDiff, h2, h3, h4, h40, h41, hI]
  refine storeX 0 rfl Siz.eq rfl rfl (by simp [Value.oneCell']) (by simp) ?_
  simp (disch := omega) only [push_cast, Nat.reduceEqDiff, h2, h3, h4, h40, h41, hI]
  have hBn0 := hBn
  have hBn : ∀ p ∈ oFl b6 g ga gc :: zoB b1 b2 b4 f (some ⟨b, off, none⟩) c, wb.heap.size ≤ p.1 := fun p hp => by
    rcases List.mem_cons.1 hp with rfl | hp
    · exact hb6
    · exact hBn0 p hp
  have hS0 : ZaS wb (oFl b6 g ga gc :: zoB b1 b2 b4 f (some ⟨b, off, none⟩) c) x its b3 (zeroD d g) (.bool false) (.bool false) (.bool false) (x.own ++ (ownR its ++ oVl b3 x.way :: oFl b6 g ga gc :: zoB b1 b2 b4 f (some ⟨b, off, none⟩) c)) 0 := rfl
  have hsubB : ∀ p ∈ [oFl b6 g ga gc], p ∈ oFl b6 g ga gc :: zoB b1 b2 b4 f (some ⟨b, off, none⟩) c := fun p hp => by rw [List.mem_singleton.1 hp]; exact .head _
  refine semT_weakZ (L' := x.own ++ (ownR its ++ oVl b3 x.way :: oFl b6 g ga gc :: zoB b1 b2 b4 f (some ⟨b, off, none⟩) c)) (fun w hw => hw.perm (za_in _ _ _ _ _)) ?_
  refine freeIT [0, 2] [1, 3, 4, 5, 6, 7] [(1, []), (3, []), (4, [3]), (5, [1, 4]), (6, [5]), (7, [5, 6])] [oFl b6 g ga gc] (ZaR wb (oFl b6 g ga gc :: zoB b1 b2 b4 f (some ⟨b, off, none⟩) c) x its b3 (zeroD d g) (fun e => e 2 = .pointer (some ⟨b2, 0, none⟩) ∧ e 3 = .pointer (some ⟨b3, 0, none⟩) ∧ e 4 = .pointer (some ⟨b4, 0, none⟩) ∧ e 40 = .slice (some ⟨b, off, none⟩) f.sub.length c ∧ e 41 = i64 f.sub.length ∧ e 42 = i64 i ∧ e 46 = .pointer (some ⟨b3, 3, none⟩) ∧ e 48 = .agg (g.cells ga gc).toArray) 47 49 50 51 52 1 3 4 5 6 7) (by kernel_rfl) mixed (by kernel_rfl) (by kernel_rfl) (fun D e ds L h => stab_mem (fun p hp => h.o.base_mem p (hsubB p hp)) (by simp) (h.o.new hBn hxn hin hb3)) ?_ ?_ (stab_mem (fun p hp => hS0.base_mem p (hsubB p hp)) (by simp) (hS0.new hBn hxn hin hb3)) ?_
  · intro p hp D e ds L hD hdep I
    obtain ⟨h2, h3, h4, h40, h41, hI, eA, eC⟩ := I.he
    obtain rfl := I.hds
    have hnew := I.o.new hBn hxn hin hb3
    simp only [List.mem_cons, List.mem_nil_iff, or_false] at hp
    rcases hp with rfl | rfl | rfl | rfl | rfl | rfl
    all_goals simp only [List.mem_cons, List.mem_nil_iff, or_false, forall_eq_or_imp, forall_eq, false_implies, implies_true] at hD hdep
    · simp (disch := omega) only [push_cast, Nat.reduceEqDiff, eA]
      refine ldOne Shp.eq (I.v_mem (I.off1 hD)) rfl ?_
      simp (disch := omega) only [push_cast, Nat.reduceEqDiff]
      exact ⟨_, fun w hw => hw, I.s1 hD ⟨by simpa [upd] using h2, by simpa [upd] using h3, by simpa [upd] using h4, by simpa [upd] using h40, by simpa [upd] using h41, by simpa [upd] using hI, by simpa [upd] using eA, by simpa [upd] using eC⟩ (by decide) (by decide) (by decide)⟩
    · simp (disch := omega) only [push_cast, Nat.reduceEqDiff, eC]
      refine callV en_40 (callX_new (fun w' hw' => hT w' lo _ g ga gc (Nat.le_trans hlo hw'.size) hg2 (hG.sy hlo hw' hnew)) (fun u M hM hMn hu => ?_))
      obtain ⟨its2, a2, c2, rfl, rfl, hZ⟩ := hu
      simp (disch := omega) only [push_cast, Nat.reduceEqDiff]
      exact ⟨_, fun w hw => hw, I.s6 hD hZ hM ⟨by simpa [upd] using h2, by simpa [upd] using h3, by simpa [upd] using h4, by simpa [upd] using h40, by simpa [upd] using h41, by simpa [upd] using hI, by simpa [upd] using eA, by simpa [upd] using eC⟩ (by decide) (by decide) (by decide)⟩
    · obtain ⟨its2, a2, c2, hZ, hi2, e6, hL7⟩ := I.call hdep hD
      simp (disch := omega) only [push_cast, Nat.reduceEqDiff, e6, Vl.cells]
      refine bs_27_1 (newI fun b7 hb7 hn7 => ?_)
      simp (disch := omega) only [push_cast, Nat.reduceEqDiff]
      exact ⟨_, fun w hw => hw, I.s7 hdep hD hZ hi2 hb7 hL7 ⟨by simpa [upd] using h2, by simpa [upd] using h3, by simpa [upd] using h4, by simpa [upd] using h40, by simpa [upd] using h41, by simpa [upd] using hI, by simpa [upd] using eA, by simpa [upd] using eC⟩ (by decide) (by decide) (by decide)⟩
    · have e1 := I.d1 hdep.1
      simp (disch := omega) only [push_cast, Nat.reduceEqDiff, e1]
      refine ZaS.app (I.row hdep.2 hD) hxok hxn hsm (fun x' L' L'' hsub hz => ?_)
      simp (disch := omega) only [push_cast, Nat.reduceEqDiff]
      exact ⟨L'', hsub, I.s8 hdep.1 hdep.2 hD hz ⟨by simpa [upd] using h2, by simpa [upd] using h3, by simpa [upd] using h4, by simpa [upd] using h40, by simpa [upd] using h41, by simpa [upd] using hI, by simpa [upd] using eA, by simpa [upd] using eC⟩ (by decide) (by decide) (by decide)⟩
    · simp (disch := omega) only [push_cast, Nat.reduceEqDiff, h3]
      exact ⟨_, fun w hw => hw, I.s9 ⟨by simpa [upd] using h2, by simpa [upd] using h3, by simpa [upd] using h4, by simpa [upd] using h40, by simpa [upd] using h41, by simpa [upd] using hI, by simpa [upd] using eA, by simpa [upd] using eC⟩ (by decide) (by decide)⟩
    · obtain ⟨its2, a2, c2, x', hZ, hi2, r3, r4, r5, r6, e8, rfl⟩ := I.app hdep.1 hD
      have eS := I.d9 hdep.2
      simp (disch := omega) only [push_cast, Nat.reduceEqDiff, eS, e8, oVl]
      refine storeX 0 rfl Siz.eq rfl rfl (by simp [Value.oneCell', Rw.way]) (by simp) ?_
      simp (disch := omega) only [push_cast, Nat.reduceEqDiff]
      exact ⟨_, fun w hw => hw, I.s10 hdep.1 hZ hi2 r3 r4 r5 r6 (by decide) (by decide)⟩
  · intro D e ds L hD I
    obtain ⟨h2, h3, h4, h40, h41, hI, eA, eC⟩ := I.he
    obtain rfl := I.hds
    obtain ⟨its2, a2, c2, x', hZ, hi2, r3, r4, r5, r6, rfl⟩ := I.done (hD 7 (by simp))
    simp (disch := omega) only [push_cast, Nat.reduceEqDiff, h2, h3, h4, hI]
    exact ⟨i + 1, _, fun w hw => ((hw.perm (za_perm6 _ _ _ _ _ _)).left (A := [_]) (fun p hp => by rw [List.mem_singleton.1 hp]; exact hb6)).perm (za_perm _ _ _ _ _), ⟨rfl, rfl, by omega, h2, h3, h4, ⟨h40, h41, by simp only [upd]; rfl⟩, x', its ++ its2, r3, by rw [r4, hxl, List.length_map, List.length_take]; omega, by rw [r5, List.take_add_one, hg, Option.toList_some, List.map_append]; exact ZeK.append (ZeK.single hZ) hzk, r6, (fun p hp => by
      rw [ownR_append] at hp
      rcases List.mem_append.1 hp with hp | hp
      · exact hin p hp
      · exact hi2 p hp), by rw [ownR_append]⟩, by omega⟩
  simp (disch := omega) only [push_cast, Nat.reduceEqDiff, h2, h3, h4, hI]
  refine loadX_agg Shp.eq (.head _) rfl rfl ?_
  simp (disch := omega) only [push_cast, Nat.reduceEqDiff, h2, h3, h4, hI]
  exact ⟨rfl, ⟨h2, h3, h4, h40, h41, hI, rfl, rfl⟩, (fun h => by simp at h), (by simp), rfl, (fun h => by simp at h)⟩
theorem zero_walk : ∀ d, ZpOK d
  | 0 => fun w lo ind f a c hlo hok => absurd hok id
  | d + 1 => zero_step d (zero_walk d)
end Go.Proofs.YtjkogfiidhjpcaaDoor
/- YtjkogfiidhjpcaaDoor: walks, part 136: Zero of both. -/
namespace Go.Proofs.YtjkogfiidhjpcaaDoor
open Go Go.K
set_option maxRecDepth 100000
set_option linter.unusedVariables false
set_option linter.unusedSimpArgs false
set_option maxHeartbeats 4000000
/-- Zero: a field's zero value, or what is wrong. -/
def zeroP (f : Fld) : Vl × Int := if mayD f = true then (if 4194304 < zwD 64 f then (.mk false 0 [] [], 3) else (zeroD 64 f, 0)) else (.mk false 0 [] [], 5)
abbrev ZrS (p : Vl × Int) (u : Value) (M : Own) : Prop := ∃ its a c, u = .tuple #[.agg (p.1.cells a c).toArray, i64 p.2] ∧ M = ownR its ∧ ZeV p.1 its a c
theorem zr_none (n : Int) : ZrS (.mk false 0 [] [], n) (.tuple #[.agg #[.bool false, i64 0, str [], .slice none 0 0], i64 n]) [] := ⟨[nilRw], none, 0, rfl, rfl, zeV_nil _ (by simp)⟩
theorem zeroR_walk (w : World) (lo : Nat) (hlo : lo ≤ w.heap.size) (f : Fld) (a : Option Addr) (c : Nat) (hA : FlAt w lo f a c) (hfn : f.nm.length ≤ 9223372036854775807) :
    Calls Tryd.prog 19 #[.agg (f.cells a c).toArray] w (RetsN w (ZrS (zeroP f))) := by
  refine enterT (args := [.agg (f.cells a c).toArray]) Tryd.func19 rfl Tryd.ntmps19 (congrArg Array.toList Tryd.results19) (by kernel_rfl) (by simp) (Sy.refl w) ?_
  simp (disch := omega) only [push_cast, Nat.reduceEqDiff, Fld.cells]
  refine newI (fun b1 hb1 hn1 => ?_)
  simp (disch := omega) only [push_cast, Nat.reduceEqDiff, Fld.cells]
  refine newI (fun b2 hb2 hn2 => ?_)
  simp (disch := omega) only [push_cast, Nat.reduceEqDiff, Fld.cells]
  refine loadX_agg Shp.eq mem1 rfl rfl ?_
  simp (disch := omega) only [push_cast, Nat.reduceEqDiff]
  have hL : ∀ x y : Obj, ∀ p ∈ [(b2, x), (b1, y)], w.heap.size ≤ p.1 := fun x y p hp => by
    simp only [List.mem_cons, List.mem_nil_iff, or_false] at hp
    rcases hp with rfl | rfl <;> assumption
  refine callV en_33 (callX_is (fun w' hw' => right_walk w' lo (Nat.le_trans hlo hw'.size) f a c (hA.sy hlo hw' (hL _ _)) hfn) ?_)
  simp (disch := omega) only [push_cast, Nat.reduceEqDiff]
  rw [V_cond]
  simp (disch := omega) only [push_cast, Nat.reduceEqDiff]
  refine condX_b (fun hm => ?_) (fun hm => ?_)
  · have hmay : ¬ mayD f = true := by simpa using hm
    simp (disch := omega) only [push_cast, Nat.reduceEqDiff]
    refine storeX 0 rfl Siz.eq rfl rfl (by simp [Value.oneCell']) (by simp) ?_
    simp (disch := omega) only [push_cast, Nat.reduceEqDiff]
    refine loadX_agg Shp.eq mem0 rfl rfl ?_
    simp (disch := omega) only [push_cast, Nat.reduceEqDiff]
    exact fun w' hw' => ⟨_, [], rfl, by simpa using hw'.end (hL _ _), by simp, by unfold zeroP; rw [if_neg hmay]; exact zr_none 5⟩
  have hmay : mayD f = true := by simpa using hm
  have hok := may_okZ hmay
  simp (disch := omega) only [push_cast, Nat.reduceEqDiff]
  refine loadX_agg Shp.eq mem1 rfl rfl ?_
  simp (disch := omega) only [push_cast, Nat.reduceEqDiff]
  refine callV en_37 (callX_is (fun w' hw' => zeroWeight_walk 64 w' lo _ f a c (Nat.le_trans hlo hw'.size) hok (hA.sy hlo hw' (hL _ _))) ?_)
  simp (disch := omega) only [push_cast, Nat.reduceEqDiff]
  rw [V_cond]
  simp (disch := omega) only [push_cast, Nat.reduceEqDiff]
  refine condX_d (fun hw => ?_) (fun hw => ?_)
  · simp (disch := omega) only [push_cast, Nat.reduceEqDiff]
    refine storeX 0 rfl Siz.eq rfl rfl (by simp [Value.oneCell']) (by simp) ?_
    simp (disch := omega) only [push_cast, Nat.reduceEqDiff]
    refine loadX_agg Shp.eq mem0 rfl rfl ?_
    simp (disch := omega) only [push_cast, Nat.reduceEqDiff]
    exact fun w' hw' => ⟨_, [], rfl, by simpa using hw'.end (hL _ _), by simp, by unfold zeroP; rw [if_pos hmay, if_pos hw]; exact zr_none 3⟩
  simp (disch := omega) only [push_cast, Nat.reduceEqDiff]
  refine loadX_agg Shp.eq mem1 rfl rfl ?_
  simp (disch := omega) only [push_cast, Nat.reduceEqDiff]
  refine callV en_38 (callX_newR (fun w' hw' => zeroOf_walk 64 w' lo _ f a c (Nat.le_trans hlo hw'.size) hok (hA.sy hlo hw' (hL _ _))) (fun u M hM hMn hu => ?_))
  obtain ⟨its, a2, c2, rfl, rfl, hZ⟩ := hu
  simp (disch := omega) only [push_cast, Nat.reduceEqDiff, Vl.cells]
  refine storeX 0 rfl Siz.eq rfl rfl (by simp [Value.oneCell']) (by simp) ?_
  simp (disch := omega) only [push_cast, Nat.reduceEqDiff]
  refine loadX_agg Shp.eq mem0 rfl rfl ?_
  simp (disch := omega) only [push_cast, Nat.reduceEqDiff]
  exact fun w' hw' => ⟨_, ownR its, rfl, hw'.left (A := [_, _]) (hL _ _), hM, by unfold zeroP; rw [if_pos hmay, if_neg hw]; exact ⟨its, a2, c2, rfl, rfl, hZ⟩⟩
theorem zeroS_walk (w : World) (hs : SaysAt w) (lo : Nat) (hlo : lo ≤ w.heap.size) (f : Fld) (a : Option Addr) (c : Nat) (hA : FlAt w lo f a c) (hfn : f.nm.length ≤ 9223372036854775807) :
    Calls Tryd.prog 20 #[.agg (f.cells a c).toArray] w (RetsN w (ZrS (zeroP f))) := by
  refine enterT (args := [.agg (f.cells a c).toArray]) Tryd.func20 rfl Tryd.ntmps20 (congrArg Array.toList Tryd.results20) (by kernel_rfl) (by simp) (Sy.refl w) ?_
  simp (disch := omega) only [push_cast, Nat.reduceEqDiff, Fld.cells]
  refine newI (fun b1 hb1 hn1 => ?_)
  simp (disch := omega) only [push_cast, Nat.reduceEqDiff, Fld.cells]
  refine newI (fun b2 hb2 hn2 => ?_)
  simp (disch := omega) only [push_cast, Nat.reduceEqDiff, Fld.cells]
  have hL : ∀ x y : Obj, ∀ p ∈ [(b2, x), (b1, y)], w.heap.size ≤ p.1 := fun x y p hp => by
    simp only [List.mem_cons, List.mem_nil_iff, or_false] at hp
    rcases hp with rfl | rfl <;> assumption
  rw [V_block]
  simp (disch := omega) only [push_cast, Nat.reduceEqDiff, Fld.cells]
  refine loadX_agg Shp.eq mem1 rfl rfl ?_
  simp (disch := omega) only [push_cast, Nat.reduceEqDiff]
  refine callV en_24 (callX_is (fun w' hw' => may_walk w' (hs.mono hw' (hL _ _)) lo (Nat.le_trans hlo hw'.size) f a c (hA.sy hlo hw' (hL _ _)) hfn) ?_)
  simp (disch := omega) only [push_cast, Nat.reduceEqDiff]
  rw [V_cond]
  simp (disch := omega) only [push_cast, Nat.reduceEqDiff]
  refine condX_b (fun hm => ?_) (fun hm => ?_)
  · have hmay : ¬ mayD f = true := by simpa using hm
    simp (disch := omega) only [push_cast, Nat.reduceEqDiff]
    refine storeX 0 rfl Siz.eq rfl rfl (by simp [Value.oneCell']) (by simp) ?_
    simp (disch := omega) only [push_cast, Nat.reduceEqDiff]
    refine loadX_agg Shp.eq mem0 rfl rfl ?_
    simp (disch := omega) only [push_cast, Nat.reduceEqDiff]
    exact fun w' hw' => ⟨_, [], rfl, by simpa using hw'.end (hL _ _), by simp, by unfold zeroP; rw [if_neg hmay]; exact zr_none 5⟩
  have hmay : mayD f = true := by simpa using hm
  have hok := may_okZ hmay
  simp (disch := omega) only [push_cast, Nat.reduceEqDiff]
  refine loadX_agg Shp.eq mem1 rfl rfl ?_
  simp (disch := omega) only [push_cast, Nat.reduceEqDiff]
  refine callV en_39 (callX_is (fun w' hw' => zwt_walk 64 w' lo _ f a c (Nat.le_trans hlo hw'.size) hok (hA.sy hlo hw' (hL _ _))) ?_)
  simp (disch := omega) only [push_cast, Nat.reduceEqDiff]
  rw [V_cond]
  simp (disch := omega) only [push_cast, Nat.reduceEqDiff]
  refine condX_d (fun hw => ?_) (fun hw => ?_)
  · simp (disch := omega) only [push_cast, Nat.reduceEqDiff]
    refine storeX 0 rfl Siz.eq rfl rfl (by simp [Value.oneCell']) (by simp) ?_
    simp (disch := omega) only [push_cast, Nat.reduceEqDiff]
    refine loadX_agg Shp.eq mem0 rfl rfl ?_
    simp (disch := omega) only [push_cast, Nat.reduceEqDiff]
    exact fun w' hw' => ⟨_, [], rfl, by simpa using hw'.end (hL _ _), by simp, by unfold zeroP; rw [if_pos hmay, if_pos hw]; exact zr_none 3⟩
  simp (disch := omega) only [push_cast, Nat.reduceEqDiff]
  refine loadX_agg Shp.eq mem1 rfl rfl ?_
  simp (disch := omega) only [push_cast, Nat.reduceEqDiff]
  refine callV en_40 (callX_newR (fun w' hw' => zero_walk 64 w' lo _ f a c (Nat.le_trans hlo hw'.size) hok (hA.sy hlo hw' (hL _ _))) (fun u M hM hMn hu => ?_))
  obtain ⟨its, a2, c2, rfl, rfl, hZ⟩ := hu
  simp (disch := omega) only [push_cast, Nat.reduceEqDiff, Vl.cells]
  refine storeX 0 rfl Siz.eq rfl rfl (by simp [Value.oneCell']) (by simp) ?_
  simp (disch := omega) only [push_cast, Nat.reduceEqDiff]
  refine loadX_agg Shp.eq mem0 rfl rfl ?_
  simp (disch := omega) only [push_cast, Nat.reduceEqDiff]
  exact fun w' hw' => ⟨_, ownR its, rfl, hw'.left (A := [_, _]) (hL _ _), hM, by unfold zeroP; rw [if_pos hmay, if_neg hw]; exact ⟨its, a2, c2, rfl, rfl, hZ⟩⟩
end Go.Proofs.YtjkogfiidhjpcaaDoor
