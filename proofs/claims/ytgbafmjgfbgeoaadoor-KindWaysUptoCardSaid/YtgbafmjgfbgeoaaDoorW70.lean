/- YtgbafmjgfbgeoaaDoor: walks, part 70: how deep a type is. -/
import Derived.Test.YtgbafmjgfbgeoaaDoorW67
import Derived.Test.YtgbafmjgfbgeoaaDoorW69
namespace Go.Proofs.YtgbafmjgfbgeoaaDoor
open Go Go.K
set_option maxRecDepth 100000
set_option linter.unusedVariables false
set_option linter.unusedSimpArgs false
set_option maxHeartbeats 4000000
theorem max_i64 {P : Program} {K : Value → Prop} (ats : Array TypeId) (ty : TypeId) (x y : Int) (h : K (i64 (max x y))) : PureX P (Builtin.max_ ats ty #[i64 x, i64 y]) (tag K) := by
  refine ⟨_, fun w => ?_, h⟩
  have h0 : Builtin.max_ ats ty #[i64 x, i64 y] = Builtin.max2 (i64 x) (i64 y) := by
    show List.foldlM Builtin.max2 (i64 x) [i64 y] = _
    simp
  rw [h0]
  show (pure (Value.int .i64 (if y > x then y else x)) : Sem Value).run P w = _
  have h1 : (if y > x then y else x) = max x y := by
    rw [Int.max_def]
    split <;> split <;> omega
  rw [h1]
  rfl
theorem depth_walk (w : World) (hs : SaysAt w) (lo : Nat) (hlo : lo ≤ w.heap.size) (f : Fld) (a : Option Addr) (c : Nat) (hT : TyAt w lo f a c) :
    Calls Tryd.prog 17 #[tyV f a c] w (Rets w (Is (i64 (depthP f)))) := by
  refine enterM (args := [tyV f a c]) Tryd.func17 rfl Tryd.ntmps17 (congrArg Array.toList Tryd.results17) (by kernel_rfl) (by simp) (Sy.refl w) ?_
  simp (disch := omega) only [push_cast, Nat.reduceEqDiff, Fld.tcells]
  refine newI (fun b1 hb1 hn1 => ?_)
  simp (disch := omega) only [push_cast, Nat.reduceEqDiff, Fld.tcells]
  refine loadX_agg Shp.eq mem0 rfl rfl ?_
  simp (disch := omega) only [push_cast, Nat.reduceEqDiff]
  have hL : ∀ x : Obj, ∀ p ∈ [(b1, x)], w.heap.size ≤ p.1 := fun x p hp => by rw [List.mem_singleton.1 hp]; exact hb1
  refine callV en_44 (callX_is (fun w' hw' => mayType_walk w' (hs.mono hw' (hL _)) lo (Nat.le_trans hlo hw'.size) f a c (hT.sy hlo hw' (hL _))) ?_)
  simp (disch := omega) only [push_cast, Nat.reduceEqDiff]
  rcases hm : mayT f with _ | _
  · simp only [Bool.not_false]
    rw [V_cond]
    simp (disch := omega) only [push_cast, Nat.reduceEqDiff]
    exact finIs (hL _) (by simp [depthP, hm])
  simp only [Bool.not_true]
  rw [V_cond]
  simp (disch := omega) only [push_cast, Nat.reduceEqDiff]
  refine newI (fun b3 hb3 hn3 => ?_)
  simp (disch := omega) only [push_cast, Nat.reduceEqDiff]
  refine storeX 0 rfl Siz.eq rfl rfl (by simp [Value.oneCell']) (by simp) ?_
  simp (disch := omega) only [push_cast, Nat.reduceEqDiff]
  have hL3 : ∀ x y : Obj, ∀ p ∈ [(b3, x), (b1, y)], w.heap.size ≤ p.1 := fun x y p hp => by
    simp only [List.mem_cons, List.mem_nil_iff, or_false] at hp
    rcases hp with rfl | rfl <;> assumption
  refine loadX_agg Shp.eq mem1 rfl rfl ?_
  simp (disch := omega) only [push_cast, Nat.reduceEqDiff]
  refine callV en_45 (callX_is (fun w' hw' => holder_walk w' lo (Nat.le_trans hlo hw'.size) f a c (hT.sy hlo hw' (hL3 _ _))) ?_)
  simp (disch := omega) only [push_cast, Nat.reduceEqDiff, Fld.cells]
  refine bs_22_1 (newI fun b9 hb9 hn9 => ?_)
  simp (disch := omega) only [push_cast, Nat.reduceEqDiff]
  refine callV en_41 (callX_new (fun w' _ => all_walk w' (some ⟨b9, 0, none⟩) 1 1 64) (fun v M hM hMn ⟨bl, bo, hne, hv, hMM⟩ => ?_))
  subst hv; subst hMM
  simp (disch := omega) only [push_cast, Nat.reduceEqDiff]
  rw [V_block]
  simp (disch := omega) only [push_cast, Nat.reduceEqDiff]
  refine forgetS (fun e => e 1 = .pointer (some ⟨b1, 0, none⟩) ∧ e 3 = .pointer (some ⟨b3, 0, none⟩) ∧ e 11 = .func (.func 62) #[] #[.pointer (some ⟨bo, 0, none⟩), .pointer (some ⟨bl, 0, none⟩)]) ⟨rfl, rfl, rfl⟩ ?_
  rintro e ⟨e1, e3, e11⟩
  refine rangeY rfl e11 en_62 (fun fn tm d lr rec hrec htm hdl hd hlr hdn hlrn w' hw' => ?_)
  have hM9 : ∀ p ∈ [(bo, Obj.cells #[i64 64] 3 (0, 0)), (bl, Obj.cells #[Value.slice (some ⟨b9, 0, none⟩) 1 1] 22 (0, 0)), (b9, Obj.cells ((holdK f).cells a c).toArray 38 (0, 0))], w.heap.size ≤ p.1 := fun p hp => by
    have h1 : ∀ p ∈ [(bo, Obj.cells #[i64 64] 3 (0, 0)), (bl, Obj.cells #[Value.slice (some ⟨b9, 0, none⟩) 1 1] 22 (0, 0))], w.heap.size ≤ p.1 := hM
    simp only [List.mem_cons, List.mem_nil_iff, or_false] at hp
    rcases hp with rfl | rfl | rfl
    · exact h1 (bo, _) (.head _)
    · exact h1 (bl, _) (.tail _ (.head _))
    · exact hb9
  have hC : ∀ x y z u : Obj, ∀ p ∈ [(lr, x), (d, y), (b3, z), (b1, u)], w.heap.size ≤ p.1 := fun x y z u p hp => by
    simp only [List.mem_cons, List.mem_nil_iff, or_false] at hp
    rcases hp with rfl | rfl | rfl | rfl <;> assumption
  have hrd : RdX (fun w' => (∀ k, k < lo → w'.heap[k]? = w.heap[k]?) ∧ w'.heap[b9]? = some (Obj.cells ((holdK f).cells a c).toArray 38 (0, 0))) (some ⟨b9, 0, none⟩) [holdK f] :=
    .cons hT.hc (by simp [holdK, Fld.nm]) hT.hc2 (fun w' hw' => ⟨_, _, _, hw'.2, rfl⟩) (RdX.of_rd (fun w' hw' => hw'.1) hT.hr) (.nil _)
  refine (all1x_walk w (fun w' => (∀ k, k < lo → w'.heap[k]? = w.heap[k]?) ∧ w'.heap[b9]? = some (Obj.cells ((holdK f).cells a c).toArray 38 (0, 0))) [(b9, Obj.cells ((holdK f).cells a c).toArray 38 (0, 0))] (nd 64 [] false [holdK f])
    (fun k C => k ≤ (nd 64 [] false [holdK f]).length ∧ C = [(lr, .loop rec), (d, .deferred (some [])), (b3, .cells #[i64 (dmax ((nd 64 [] false [holdK f]).take k) : Nat)] 3 (0, 0)), (b1, Obj.cells #[i64 f.k, i64 f.wd, i64 f.id, i64 f.ix, .slice a f.sub.length c] 36 (0, 0))])
    (fun k C => False) ?_
    (.func (.yield lr) #[] #[]) rfl rfl ⟨(by intro g f c h; cases h), ?_, ?_⟩ 64 (by omega) (by omega) w' [(lr, .loop rec), (d, .deferred (some [])), (b3, .cells #[i64 0] 3 (0, 0)), (b1, Obj.cells #[i64 f.k, i64 f.wd, i64 f.id, i64 f.ix, .slice a f.sub.length c] 36 (0, 0))] [(bo, .cells #[i64 64] 3 (0, 0)), (bl, .cells #[.slice (some ⟨b9, 0, none⟩) 1 1] 22 (0, 0)), (b9, Obj.cells ((holdK f).cells a c).toArray 38 (0, 0))] bo bl [holdK f] (some ⟨b9, 0, none⟩) 1
    (hw'.perm (((List.perm_append_comm (l₁ := [(bo, Obj.cells #[i64 64] 3 (0, 0)), (bl, Obj.cells #[.slice (some ⟨b9, 0, none⟩) 1 1] 22 (0, 0)), (b9, Obj.cells ((holdK f).cells a c).toArray 38 (0, 0))])).cons _).cons _)) ⟨Nat.zero_le _, rfl⟩ hM9 (fun p hp => by rw [List.mem_singleton.1 hp]; exact .tail _ (.tail _ (.head _))) (.head _) (.tail _ (.head _)) hrd (by simp) (by omega) rfl).mono ?_
  · rintro k C M w2 ⟨_, rfl⟩ hM2 hM0 hw2
    refine ⟨fun j hj => hw2.rest j (by omega) (fun hm => ?_), hw2.own _ _ (List.mem_append_right _ (hM0 _ (.head _)))⟩
    obtain ⟨p, hp, he⟩ := List.mem_map.1 hm
    rcases List.mem_append.1 hp with hp | hp
    · have := hC _ _ _ _ p hp; omega
    · have := hM2 p hp; omega
  · rintro k C ⟨_, rfl⟩ p hp
    exact hC _ _ _ _ p hp
  · rintro k n hkn C M bw cap cs fa aa fc ac ⟨hk, rfl⟩ hbw hpc hcm hcl hct hrf hfc hfc2 hnm hra hac hac2 hpl hM2 hM02 w2 hw2
    have hklt : k < (nd 64 [] false [holdK f]).length := (List.getElem?_eq_some_iff.1 hkn).1
    have hdm := dmax_take hkn
    subst hrec
    refine roundX (i := 0) rfl htm rfl (by simp) (by kernel_rfl) (by kernel_rfl) ?_ w2 hw2
    simp (disch := omega) only [push_cast, Nat.reduceEqDiff, e1, e3, e11, placeV]
    refine newI (fun b7 hb7 hn7 => ?_)
    simp (disch := omega) only [push_cast, Nat.reduceEqDiff, e1, e3, e11]
    repeat' (first | ((first | refine guardX_t rfl (fun h => ?_) (fun h => ?_) | refine guardX_f rfl (fun h => ?_) (fun h => ?_) | refine condX_d (fun h => ?_) (fun h => ?_) | (refine guardX_bt rfl (fun h => ?_) (fun h => ?_) <;> (try subst h)) | (refine guardX_bf rfl (fun h => ?_) (fun h => ?_) <;> (try subst h)) | (refine condX_b (fun h => ?_) (fun h => ?_) <;> (try subst h)) | refine ldOne Shp.eq (by (first | exact mem0 | exact mem1 | exact mem2 | exact mem3 | exact mem4 | exact mem5)) rfl ?_ | refine loadX_agg Shp.eq (by (first | exact mem0 | exact mem1 | exact mem2 | exact mem3 | exact mem4 | exact mem5)) rfl rfl ?_ | refine newI (fun b hb hn => ?_) | refine storeX 0 rfl Siz.eq rfl rfl (by simp [Value.oneCell']) (by simp) ?_ | refine storeX 1 rfl Siz.eq rfl rfl (by simp [Value.oneCell']) (by simp) ?_ | refine storeX 2 rfl Siz.eq rfl rfl (by simp [Value.oneCell']) (by simp) ?_ | refine storeX 3 rfl Siz.eq rfl rfl (by simp [Value.oneCell']) (by simp) ?_ | refine storeX 4 rfl Siz.eq rfl rfl (by simp [Value.oneCell']) (by simp) ?_ | refine storeX 5 rfl Siz.eq rfl rfl (by simp [Value.oneCell']) (by simp) ?_ | refine storeX 6 rfl Siz.eq rfl rfl (by simp [Value.oneCell']) (by simp) ?_) <;> simp (disch := omega) only [push_cast, Nat.reduceEqDiff, e1, e3, e11]))
    refine ⟨1, rfl, ?_⟩
    simp (disch := omega) only [push_cast, Nat.reduceEqDiff, e1, e3, e11]
    rw [V_block]
    simp (disch := omega) only [push_cast, Nat.reduceEqDiff, e1, e3, e11]
    repeat' (first | ((first | refine guardX_t rfl (fun h => ?_) (fun h => ?_) | refine guardX_f rfl (fun h => ?_) (fun h => ?_) | refine condX_d (fun h => ?_) (fun h => ?_) | (refine guardX_bt rfl (fun h => ?_) (fun h => ?_) <;> (try subst h)) | (refine guardX_bf rfl (fun h => ?_) (fun h => ?_) <;> (try subst h)) | (refine condX_b (fun h => ?_) (fun h => ?_) <;> (try subst h)) | refine ldOne Shp.eq (by (first | exact mem0 | exact mem1 | exact mem2 | exact mem3 | exact mem4 | exact mem5)) rfl ?_ | refine loadX_agg Shp.eq (by (first | exact mem0 | exact mem1 | exact mem2 | exact mem3 | exact mem4 | exact mem5)) rfl rfl ?_ | refine newI (fun b hb hn => ?_) | refine storeX 0 rfl Siz.eq rfl rfl (by simp [Value.oneCell']) (by simp) ?_ | refine storeX 1 rfl Siz.eq rfl rfl (by simp [Value.oneCell']) (by simp) ?_ | refine storeX 2 rfl Siz.eq rfl rfl (by simp [Value.oneCell']) (by simp) ?_ | refine storeX 3 rfl Siz.eq rfl rfl (by simp [Value.oneCell']) (by simp) ?_ | refine storeX 4 rfl Siz.eq rfl rfl (by simp [Value.oneCell']) (by simp) ?_ | refine storeX 5 rfl Siz.eq rfl rfl (by simp [Value.oneCell']) (by simp) ?_ | refine storeX 6 rfl Siz.eq rfl rfl (by simp [Value.oneCell']) (by simp) ?_) <;> simp (disch := omega) only [push_cast, Nat.reduceEqDiff, e1, e3, e11]))
    refine max_i64 _ _ _ _ ?_
    simp (disch := omega) only [push_cast, Nat.reduceEqDiff, e1, e3, e11]
    repeat' (first | ((first | refine guardX_t rfl (fun h => ?_) (fun h => ?_) | refine guardX_f rfl (fun h => ?_) (fun h => ?_) | refine condX_d (fun h => ?_) (fun h => ?_) | (refine guardX_bt rfl (fun h => ?_) (fun h => ?_) <;> (try subst h)) | (refine guardX_bf rfl (fun h => ?_) (fun h => ?_) <;> (try subst h)) | (refine condX_b (fun h => ?_) (fun h => ?_) <;> (try subst h)) | refine ldOne Shp.eq (by (first | exact mem0 | exact mem1 | exact mem2 | exact mem3 | exact mem4 | exact mem5)) rfl ?_ | refine loadX_agg Shp.eq (by (first | exact mem0 | exact mem1 | exact mem2 | exact mem3 | exact mem4 | exact mem5)) rfl rfl ?_ | refine newI (fun b hb hn => ?_) | refine storeX 0 rfl Siz.eq rfl rfl (by simp [Value.oneCell']) (by simp) ?_ | refine storeX 1 rfl Siz.eq rfl rfl (by simp [Value.oneCell']) (by simp) ?_ | refine storeX 2 rfl Siz.eq rfl rfl (by simp [Value.oneCell']) (by simp) ?_ | refine storeX 3 rfl Siz.eq rfl rfl (by simp [Value.oneCell']) (by simp) ?_ | refine storeX 4 rfl Siz.eq rfl rfl (by simp [Value.oneCell']) (by simp) ?_ | refine storeX 5 rfl Siz.eq rfl rfl (by simp [Value.oneCell']) (by simp) ?_ | refine storeX 6 rfl Siz.eq rfl rfl (by simp [Value.oneCell']) (by simp) ?_) <;> simp (disch := omega) only [push_cast, Nat.reduceEqDiff, e1, e3, e11]))
    refine ⟨1, _, rfl, fun w4 hw4 => .inl ⟨rfl, _, ⟨[_, _, _, _], ⟨hklt, ?_⟩, rfl⟩, hw4.mid [] [_] (fun p hp => by rw [List.mem_singleton.1 hp]; exact hb7)⟩⟩
    have hmx : ((dmax ((nd 64 [] false [holdK f]).take (k + 1)) : Nat) : Int) = max ((dmax ((nd 64 [] false [holdK f]).take k) : Nat) : Int) (n.path.length : Int) := by rw [hdm]; omega
    rw [hmx]
    rfl
  · rintro en w4 ⟨rfl, h⟩
    rcases h with ⟨C', ⟨_, rfl⟩, hw4⟩ | ⟨k, C', hJ, hw4⟩
    · refine ⟨w, _, 0, rec, rfl, by rw [hrec]; simp, hw4, ?_⟩
      have hp : rec.pending = none := by rw [hrec]
      rw [hp]
      simp (disch := omega) only [push_cast, Nat.reduceEqDiff, e1, e3]
      repeat' (first | ((first | refine guardX_t rfl (fun h => ?_) (fun h => ?_) | refine guardX_f rfl (fun h => ?_) (fun h => ?_) | refine condX_d (fun h => ?_) (fun h => ?_) | (refine guardX_bt rfl (fun h => ?_) (fun h => ?_) <;> (try subst h)) | (refine guardX_bf rfl (fun h => ?_) (fun h => ?_) <;> (try subst h)) | (refine condX_b (fun h => ?_) (fun h => ?_) <;> (try subst h)) | refine ldOne Shp.eq (by (first | exact mem0 | exact mem1 | exact mem2 | exact mem3 | exact mem4 | exact mem5)) rfl ?_ | refine loadX_agg Shp.eq (by (first | exact mem0 | exact mem1 | exact mem2 | exact mem3 | exact mem4 | exact mem5)) rfl rfl ?_ | refine newI (fun b hb hn => ?_) | refine storeX 0 rfl Siz.eq rfl rfl (by simp [Value.oneCell']) (by simp) ?_ | refine storeX 1 rfl Siz.eq rfl rfl (by simp [Value.oneCell']) (by simp) ?_ | refine storeX 2 rfl Siz.eq rfl rfl (by simp [Value.oneCell']) (by simp) ?_ | refine storeX 3 rfl Siz.eq rfl rfl (by simp [Value.oneCell']) (by simp) ?_ | refine storeX 4 rfl Siz.eq rfl rfl (by simp [Value.oneCell']) (by simp) ?_ | refine storeX 5 rfl Siz.eq rfl rfl (by simp [Value.oneCell']) (by simp) ?_ | refine storeX 6 rfl Siz.eq rfl rfl (by simp [Value.oneCell']) (by simp) ?_) <;> simp (disch := omega) only [push_cast, Nat.reduceEqDiff, e1, e3]))
      refine ⟨d, 1, rfl, rfl, ?_⟩
      simp (disch := omega) only [push_cast, Nat.reduceEqDiff, e1, e3]
      rw [List.take_length]
      refine finIs ?_ (by simp [depthP, hm])
      intro p hp
      simp only [List.mem_cons, List.mem_nil_iff, or_false] at hp
      rcases hp with rfl | rfl | rfl | rfl | hp
      all_goals first | assumption | exact hM9 p (by simpa using hp)
    · exact hJ.elim
end Go.Proofs.YtgbafmjgfbgeoaaDoor
