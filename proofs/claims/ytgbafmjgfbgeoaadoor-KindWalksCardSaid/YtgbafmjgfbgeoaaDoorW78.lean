/- YtgbafmjgfbgeoaaDoor: walks, part 78: Walk: all fields of a schema, those within too, each with its way; way and field are new memory. -/
import Derived.Test.YtgbafmjgfbgeoaaDoorW61
import Derived.Test.YtgbafmjgfbgeoaaDoorW69
import Derived.Test.YtgbafmjgfbgeoaaDoorKs
namespace Go.Proofs.YtgbafmjgfbgeoaaDoor
open Go Go.K
set_option maxRecDepth 100000
set_option linter.unusedVariables false
set_option linter.unusedSimpArgs false
set_option maxHeartbeats 1000000
/-- Entering a function that holds a loop over a function; base and own blocks told. -/
theorem enterMB {P : Program} {f : FuncId} {fn : Func} {code : Code} {args : List Value} {w wb : World} {L : Own} {R : Ending → World → Prop} (hf : P.funcs[f]? = some fn) (hb : fn.body = some code) {rs : List ResultVar} {n : Nat} (hn : fn.ntmps = n) (hrs : fn.results.toList = rs) (hok : okCode n code = true) (hsz : args.length ≤ n)
    (hL : Sy wb L w) (h : VT ⟨P, n, none⟩ (tag code) (tag (retM P rs (tag R))) wb (env0 args) [] L) : Calls P f args.toArray w R := by
  subst hn
  refine calls_of_in (r := none) (m := 0) (callsIn_of_wp_marks (F := { Fence.wide with round := none }) hf hb trivial (wpIn_mono (V_sound (c := ⟨P, fn.ntmps, none⟩) code _ wb _ [] L hok h { tmps := args.toArray ++ Array.replicate (fn.ntmps - args.toArray.size) undef, defers := [] } w (rep0 hsz) hL) ?_))
  rintro x a w' ⟨wb', e', ds', L', hr', hw', hq⟩
  cases x with
  | normal => rw [← hr'.defers] at hq; exact leaveL_sound hrs ⟨hr'.size, hr'.get, rfl⟩ _ _ _ _ hw' hq
  | ret => rw [← hr'.defers] at hq; exact leaveL_sound hrs ⟨hr'.size, hr'.get, rfl⟩ _ _ _ _ hw' hq
  | panic ch => exact hq.elim
  | goto l => exact hq.elim
  | exit id => exact hq.elim
  | outgrown => exact hq.elim
/-- What Walk answers: a function over a list that lies in these blocks. -/
def WalkS (v : Value) (M : Own) (l : List Fld) : Prop := ∃ b3 va vc, v = .func (.func 40) #[] #[.pointer (some ⟨b3, 0, none⟩)] ∧ (b3, Obj.cells #[.slice va l.length vc] 22 (0, 0)) ∈ M ∧ l.length ≤ vc ∧ vc ≤ 9223372036854775807 ∧ RdX (fun w => Held w M) va l
def walkL (l : List Fld) (nt : List NoteT) : List Fld := if mayP l nt then l else []
theorem walk_walk (w : World) (hs : SaysAt w) (lo : Nat) (hlo : lo ≤ w.heap.size) (a : Option Addr) (l : List Fld) (c : Nat) (na : Option Addr) (nt : List NoteT) (nc : Nat) (hsc : SchAt w lo a l c na nt nc) :
    Calls Tryd.prog 10 #[schV a l c na nt nc] w (RetsN w (fun v M => WalkS v M (walkL l nt))) := by
  refine enterB (args := [schV a l c na nt nc]) Tryd.func10 rfl Tryd.ntmps10 (congrArg Array.toList Tryd.results10) (by kernel_rfl) (by simp) (Sy.refl w) ?_
  simp (disch := omega) only [push_cast, Nat.reduceEqDiff, schV]
  refine newI (fun b1 hb1 hn1 => ?_)
  simp (disch := omega) only [push_cast, Nat.reduceEqDiff]
  refine newI (fun b3 hb3 hn3 => ?_)
  simp (disch := omega) only [push_cast, Nat.reduceEqDiff]
  have hL : ∀ x y : Obj, ∀ p ∈ [(b3, x), (b1, y)], w.heap.size ≤ p.1 := fun x y p hp => by
    simp only [List.mem_cons, List.mem_nil_iff, or_false] at hp
    rcases hp with rfl | rfl <;> assumption
  refine loadX_agg Shp.eq mem1 rfl rfl ?_
  simp (disch := omega) only [push_cast, Nat.reduceEqDiff]
  refine callV en_38 (callX_is (fun w' hw' => may_walk w' (hs.mono hw' (hL _ _)) lo (Nat.le_trans hlo hw'.size) a l c na nt nc (hsc.sy hlo hw' (fun p hp => Nat.le_trans hlo (hL _ _ p hp)))) ?_)
  simp (disch := omega) only [push_cast, Nat.reduceEqDiff]
  rcases hm : mayP l nt with _ | _
  · rw [V_cond]
    simp (disch := omega) only [push_cast, Nat.reduceEqDiff]
    have hw0 : walkL l nt = [] := by unfold walkL; rw [hm]; rfl
    rw [hw0]
    exact fun w' hw' => ⟨_, [(b3, Obj.cells #[.slice none 0 0] 22 (0, 0))], rfl, hw'.drop (.cons_cons _ (List.nil_sublist _)) (fun p hp => .inr (hL _ _ p hp)), fun p hp => by rw [List.mem_singleton.1 hp]; exact hb3, b3, none, 0, rfl, .head _, by simp, by omega, .nil _⟩
  · obtain ⟨sm1, sm2⟩ := small_may hm
    have hw0 : walkL l nt = l := by unfold walkL; rw [hm]; rfl
    rw [hw0]
    rw [V_cond]
    simp (disch := omega) only [push_cast, Nat.reduceEqDiff]
    refine ldOne Shp.eq mem1 rfl ?_
    simp (disch := omega) only [push_cast, Nat.reduceEqDiff]
    refine callV en_39 (callX_new (fun w' hw' => copied_walk w' lo l a c (Nat.le_trans hlo hw'.size) (hsc.hr.sy hlo hw' (fun p hp => Nat.le_trans hlo (hL _ _ p hp))) hsc.hc hsc.hc2 sm2 sm1) (fun v M hM hMn hS => ?_))
    obtain ⟨a2, c2, xs2, rfl, z1, z2, z3, z4, z5⟩ := hS
    have zr := copy_rdx z3 z4 z5
    simp (disch := omega) only [push_cast, Nat.reduceEqDiff]
    refine storeX_weak (L' := (b3, Obj.cells #[.slice none 0 0] 22 (0, 0)) :: (M ++ [(b1, Obj.cells #[.slice a l.length c, .slice na nt.length nc] 25 (0, 0))])) (fun w hw => hw.perm List.perm_middle) (storeX 0 rfl Siz.eq rfl rfl (by simp [Value.oneCell']) (by simp) ?_)
    simp (disch := omega) only [push_cast, Nat.reduceEqDiff]
    exact fun w' hw' => ⟨_, (b3, Obj.cells #[.slice a2 l.length c2] 22 (0, 0)) :: M, rfl, hw'.drop (.cons_cons _ (List.sublist_append_left M _)) (fun p hp => .inr (by
      rcases List.mem_cons.1 hp with rfl | hp
      · exact hb3
      rcases List.mem_append.1 hp with hp | hp
      · exact hM p hp
      · rw [List.mem_singleton.1 hp]; exact hb1)), fun p hp => by
      rcases List.mem_cons.1 hp with rfl | hp
      · exact hb3
      · exact hM p hp, b3, a2, c2, rfl, .head _, z1, z2, zr.mono fun w hw p hp => hw p (.tail _ hp)⟩
/-- What the loop's body does with each way and field. N: the blocks in which these lie; they may be written. -/
structure YieldW (wb : World) (M0 : Own) (ns : List FNode) (I J : Nat → Own → Prop) (yv : Value) : Prop where
  hen : ∀ g first cap, yv = .func (.func g) first cap → entersB Tryd.prog g = true
  apart : ∀ k C, I k C → ∀ p ∈ C, wb.heap.size ≤ p.1
  apartJ : ∀ k C, J k C → ∀ p ∈ C, wb.heap.size ≤ p.1
  call : ∀ k n, ns[k]? = some n → ∀ (C N M : Own) (bw cap : Nat) (cs : List Value) (fa : Option Addr) (fc : Nat), I k C → (bw, Obj.cells cs.toArray 3 (0, 0)) ∈ N → n.path.length ≤ cap → cap ≤ maxLen → cs.length = cap → cs.take n.path.length = ints n.path →
    RdX (fun w => Held w N) fa n.f.sub → n.f.sub.length ≤ fc → fc ≤ 9223372036854775807 → n.f.nm.length ≤ 9223372036854775807 → n.path.length ≤ 65 → (∀ p ∈ N ++ M, wb.heap.size ≤ p.1) → (∀ p ∈ M0, p ∈ M) →
    ∀ w, Sy wb (C ++ (N ++ M)) w → CallsV Tryd.prog yv #[.slice (some ⟨bw, 0, none⟩) n.path.length cap, .agg (n.f.cells fa fc).toArray] w (fun e w' =>
      (e = .returned (.bool true) ∧ ∃ C', I (k + 1) C' ∧ Sy wb (C' ++ M) w') ∨ (e = .returned (.bool false) ∧ ∃ C', J k C' ∧ Sy wb (C' ++ M) w'))
theorem Stab.of_mem {wb : World} {L Lq : Own} (hm : ∀ p ∈ Lq, p ∈ L) (hnd : (Lq.map (·.1)).Nodup) (hL : ∀ p ∈ L, wb.heap.size ≤ p.1) : Stab wb L Lq := fun w h =>
  ⟨h.os, h.tape, h.output, h.size, fun b o hp => h.own b o (hm _ hp), hnd, fun k hk _ => h.rest k hk fun hx => by
    obtain ⟨p, hp, rfl⟩ := List.mem_map.1 hx
    have := hL p hp
    omega⟩
theorem forgetF {c : Cfg} {all : List Oper} {is : List Nat} {Lq : Own} {Q : Post} {wb : World} {e : Env} {ds : List Deferred} {L : Own} (F : Env → Prop) (hF : F e) (h : ∀ e, F e → VFX c (tag all) is Lq (tag Q) wb e ds L) : VFX c (tag all) is Lq (tag Q) wb e ds L := h e hF
theorem walk1_walk (wb : World) (M0 : Own) (ns : List FNode) (I J : Nat → Own → Prop) (yv : Value) (hyc : yv.cells = #[yv]) (hy1 : yv.oneCell' = true) (hy : YieldW wb M0 ns I J yv) (w : World) (C M : Own) (b3 : Nat) (l : List Fld) (va : Option Addr) (vc : Nat)
    (hw : Sy wb (C ++ M) w) (hI : I 0 C) (hM : ∀ p ∈ M, wb.heap.size ≤ p.1) (hM0 : ∀ p ∈ M0, p ∈ M) (hb3 : (b3, Obj.cells #[.slice va l.length vc] 22 (0, 0)) ∈ M) (hr : RdX (fun w => Held w M) va l) (hc : l.length ≤ vc) (hc2 : vc ≤ 9223372036854775807) (hok : ∀ x ∈ ns, okS x.f = true) (hns : ns = nd 64 [] false l) :
    Calls Tryd.prog 40 #[yv, .pointer (some ⟨b3, 0, none⟩)] w (fun e w' => e = .returned (.tuple #[]) ∧ ((∃ C', I ns.length C' ∧ Sy wb (C' ++ M) w') ∨ (∃ j C', J j C' ∧ Sy wb (C' ++ M) w'))) := by
  refine enterMB (args := [yv, .pointer (some ⟨b3, 0, none⟩)]) Tryd.func40 rfl Tryd.ntmps40 (congrArg Array.toList Tryd.results40) (by kernel_rfl) (by simp) hw ?_
  simp (disch := omega) only [push_cast, Nat.reduceEqDiff]
  rw [hyc]
  refine newI (fun b2 hb2 hn2 => ?_)
  simp (disch := omega) only [push_cast, Nat.reduceEqDiff]
  refine ldOne Shp.eq (.tail _ (List.mem_append_right _ hb3)) rfl ?_
  simp (disch := omega) only [push_cast, Nat.reduceEqDiff]
  refine callV en_41 (callX_new (fun w' _ => all_walk w' va l.length vc 64) (fun v M2 hM2 hMn2 ⟨bl, bo, hne, hv, hMM⟩ => ?_))
  subst hv; subst hMM
  simp (disch := omega) only [push_cast, Nat.reduceEqDiff]
  rw [V_block]
  simp (disch := omega) only [push_cast, Nat.reduceEqDiff]
  refine forgetS (fun e => e 2 = .pointer (some ⟨b2, 0, none⟩) ∧ e 5 = .func (.func 62) #[] #[.pointer (some ⟨bo, 0, none⟩), .pointer (some ⟨bl, 0, none⟩)]) ⟨rfl, rfl⟩ ?_
  rintro e ⟨e2, e5⟩
  refine rangeY rfl e5 en_62 (fun fn tm d lr rec hrec htm hdl hd hlr hdn hlrn w' hw' => ?_)
  have hM2' : ∀ p ∈ [(bo, Obj.cells #[i64 64] 3 (0, 0)), (bl, Obj.cells #[.slice va l.length vc] 22 (0, 0))], wb.heap.size ≤ p.1 := hM2
  have hMM : ∀ p ∈ [(bo, Obj.cells #[i64 64] 3 (0, 0)), (bl, Obj.cells #[.slice va l.length vc] 22 (0, 0))] ++ M, wb.heap.size ≤ p.1 := fun p hp => by
    rcases List.mem_append.1 hp with hp | hp
    · exact hM2' p hp
    · exact hM p hp
  have hdrop : ∀ (C1 : Own) (x y z : Obj) (w' : World), Sy wb ((lr, x) :: (d, y) :: (b2, z) :: (C1 ++ ([(bo, Obj.cells #[i64 64] 3 (0, 0)), (bl, Obj.cells #[.slice va l.length vc] 22 (0, 0))] ++ M))) w' → Sy wb (C1 ++ M) w' := fun C1 x y z w' hw' => hw'.drop ((((List.Sublist.append_left (List.sublist_append_right _ M) C1).cons _).cons _).cons _) (fun p hp => by
    simp only [List.mem_cons, List.mem_append] at hp ⊢
    rcases hp with rfl | rfl | rfl | hp | (rfl | rfl | hp) | hp
    · exact .inr hlr
    · exact .inr hd
    · exact .inr hb2
    · exact .inl (.inl hp)
    · exact .inr (hM2' (bo, _) (.head _))
    · exact .inr (hM2' (bl, _) (.tail _ (.head _)))
    · cases hp
    · exact .inl (.inr hp))
  refine (all1x_walk wb (fun w => Held w M) M ns
    (fun k C' => ∃ C, I k C ∧ C' = (lr, .loop rec) :: (d, .deferred (some [])) :: (b2, Obj.cells #[yv] 69 (0, 0)) :: C)
    (fun k C' => ∃ C rec', J k C ∧ rec'.state = .done ∧ rec'.pending = some .ret ∧ C' = (lr, .loop rec') :: (d, .deferred (some [])) :: (b2, Obj.cells #[yv] 69 (0, 0)) :: C) (fun k C M w _ _ h0 hw => Held.of_sy hw (fun p hp => List.mem_append_right _ (h0 p hp)))
    (.func (.yield lr) #[] #[]) rfl rfl ⟨(by intro g f c h; cases h), ?_, ?_⟩ 64 (by omega) (by omega) w' ((lr, .loop rec) :: (d, .deferred (some [])) :: (b2, Obj.cells #[yv] 69 (0, 0)) :: C) ([(bo, Obj.cells #[i64 64] 3 (0, 0)), (bl, Obj.cells #[.slice va l.length vc] 22 (0, 0))] ++ M) bo bl l va vc
    (hw'.perm (((List.perm_middle.trans ((List.perm_append_comm_assoc [(bo, Obj.cells #[i64 64] 3 (0, 0)), (bl, Obj.cells #[.slice va l.length vc] 22 (0, 0))] C M).cons _)).cons _).cons _)) ⟨C, hI, rfl⟩ hMM (fun p hp => List.mem_append_right _ hp) (.head _) (.tail _ (.head _)) hr hc hc2 hns).mono ?_
  · rintro k C' ⟨C, hI, rfl⟩ p hp
    simp only [List.mem_cons] at hp
    rcases hp with rfl | rfl | rfl | hp
    · exact hlr
    · exact hd
    · exact hb2
    · exact hy.apart _ _ hI p hp
  · rintro k n hkn C' Mx bw cap cs fa aa fc ac ⟨C, hI, rfl⟩ hbw hpc hcm hcl hct hrf hfc hfc2 hnm hra hac hac2 hpl hMx hM0x w2 hw2
    have hCl := hy.apart _ _ hI
    obtain ⟨bz, hbz⟩ : ∃ bz : Loop, bz = { rec with state := .busy } := ⟨_, rfl⟩
    subst hrec
    refine roundX (i := 0) rfl htm rfl (by simp) (by kernel_rfl) (by kernel_rfl) ?_ w2 hw2
    simp (disch := omega) only [push_cast, Nat.reduceEqDiff, e2, e5, placeV]
    refine newI (fun b7 hb7 hn7 => ?_)
    simp (disch := omega) only [push_cast, Nat.reduceEqDiff, e2, e5]
    repeat' (first | ((first | refine guardX_t rfl (fun h => ?_) (fun h => ?_) | refine guardX_f rfl (fun h => ?_) (fun h => ?_) | refine condX_d (fun h => ?_) (fun h => ?_) | (refine guardX_bt rfl (fun h => ?_) (fun h => ?_) <;> (try subst h)) | (refine guardX_bf rfl (fun h => ?_) (fun h => ?_) <;> (try subst h)) | (refine condX_b (fun h => ?_) (fun h => ?_) <;> (try subst h)) | refine ldOne Shp.eq (by (first | exact mem0 | exact mem1 | exact mem2 | exact mem3 | exact mem4 | exact mem5)) rfl ?_ | refine loadX_agg Shp.eq (by (first | exact mem0 | exact mem1 | exact mem2 | exact mem3 | exact mem4 | exact mem5)) rfl rfl ?_ | refine newI (fun b hb hn => ?_) | refine storeX 0 rfl Siz.eq rfl rfl (by simp [Value.oneCell']) (by simp) ?_ | refine storeX 1 rfl Siz.eq rfl rfl (by simp [Value.oneCell']) (by simp) ?_ | refine storeX 2 rfl Siz.eq rfl rfl (by simp [Value.oneCell']) (by simp) ?_ | refine storeX 3 rfl Siz.eq rfl rfl (by simp [Value.oneCell']) (by simp) ?_ | refine storeX 4 rfl Siz.eq rfl rfl (by simp [Value.oneCell']) (by simp) ?_ | refine storeX 5 rfl Siz.eq rfl rfl (by simp [Value.oneCell']) (by simp) ?_ | refine storeX 6 rfl Siz.eq rfl rfl (by simp [Value.oneCell']) (by simp) ?_) <;> simp (disch := omega) only [push_cast, Nat.reduceEqDiff, e2, e5]))
    refine ⟨1, rfl, ?_⟩
    simp (disch := omega) only [push_cast, Nat.reduceEqDiff, e2, e5]
    rw [V_block]
    simp (disch := omega) only [push_cast, Nat.reduceEqDiff, e2, e5]
    have hb72 : b7 ≠ b2 := by rintro rfl; simp at hn7
    have hnd : (([(b7, Obj.cells #[.slice (some ⟨bw, 0, none⟩) n.path.length cap, .slice aa n.ah.length ac, str n.f.nm, .bool n.f.nl, i64 n.f.k, i64 n.f.wd, i64 n.f.id, i64 n.f.ix, .slice fa n.f.sub.length fc, .bool n.ind] 74 (0, 0)), (b2, Obj.cells #[yv] 69 (0, 0))] : Own).map (·.1)).Nodup := by simp [hb72]
    have hLn : ∀ p ∈ (b7, Obj.cells #[.slice (some ⟨bw, 0, none⟩) n.path.length cap, .slice aa n.ah.length ac, str n.f.nm, .bool n.f.nl, i64 n.f.k, i64 n.f.wd, i64 n.f.id, i64 n.f.ix, .slice fa n.f.sub.length fc, .bool n.ind] 74 (0, 0)) :: (lr, .loop bz) :: (d, .deferred (some [])) :: (b2, Obj.cells #[yv] 69 (0, 0)) :: (C ++ (bw, Obj.cells cs.toArray 3 (0, 0)) :: Mx), wb.heap.size ≤ p.1 := fun p hp => by
      simp only [List.mem_cons, List.mem_append] at hp
      rcases hp with rfl | rfl | rfl | rfl | hp | rfl | hp
      · exact hb7
      · exact hlr
      · exact hd
      · exact hb2
      · exact hCl p hp
      · exact hbw
      · exact hMx p hp
    have hMx0 : ∀ p ∈ M, p ∈ Mx := hM0x
    have hpn : n.path.length ≠ 0 := fun h => by
      have h1 := List.mem_of_getElem? hkn
      rw [hns] at h1
      exact nd_path_ne 64 [] false l n h1 (List.eq_nil_of_length_eq_zero h)
    refine forgetS (fun e => e 2 = .pointer (some ⟨b2, 0, none⟩) ∧ e 3 = .pointer (some ⟨b7, 0, none⟩)) ⟨e2, rfl⟩ ?_
    clear e2 e5 htm hn7 e
    rintro e ⟨e2, e3⟩
    refine freeTs [0, 1, 2, 4, 5] [3, 6, 7, 8, 9, 10, 11] [[3, 6, 7, 8, 9, 10, 11], [6, 3, 7, 8, 9, 10, 11]] [(b7, Obj.cells #[.slice (some ⟨bw, 0, none⟩) n.path.length cap, .slice aa n.ah.length ac, str n.f.nm, .bool n.f.nl, i64 n.f.k, i64 n.f.wd, i64 n.f.id, i64 n.f.ix, .slice fa n.f.sub.length fc, .bool n.ind] 74 (0, 0)), (b2, Obj.cells #[yv] 69 (0, 0))] (by kernel_rfl) mixed (by kernel_rfl) (by kernel_rfl) (by simp) (Stab.of_mem (by simp) hnd (by subst hbz; exact hLn)) ?_
    simp (disch := omega) only [push_cast, Nat.reduceEqDiff, e2, e3]
    refine ldOne Shp.eq mem1 rfl ?_
    simp (disch := omega) only [push_cast, Nat.reduceEqDiff, e2, e3]
    refine ldOne Shp.eq mem0 rfl ?_
    simp (disch := omega) only [push_cast, Nat.reduceEqDiff, e2, e3]
    refine loadX_agg Shp.eq mem0 rfl rfl ?_
    simp (disch := omega) only [push_cast, Nat.reduceEqDiff, e2, e3]
    intro t ht
    simp only [List.mem_cons, List.mem_nil_iff, or_false] at ht
    rcases ht with rfl | rfl
      -- round begins
    · simp (disch := omega) only [push_cast, Nat.reduceEqDiff]
      refine callV en_42 (callX_own (fun w' hw' => clone_walk wb w' _ hw' _ n.path.length (ints n.path) ⟨by simp [ints], .inr ⟨bw, cap, cs, rfl, by simp, hpc, hcm, hcl, hct⟩⟩ (by omega) (ints_one _)) (fun v1 L1 hro => ?_))
      obtain ⟨hxl, ⟨_, h0', _⟩ | ⟨bc, cap2, cs2, rfl, rfl, hbc, hcc1, hcc2, hccl, hcct⟩⟩ := hro
      · exact absurd h0' hpn
      have hn1 : ∀ p ∈ (bc, Obj.cells cs2.toArray 3 (0, 0)) :: (b7, Obj.cells #[.slice (some ⟨bw, 0, none⟩) n.path.length cap, .slice aa n.ah.length ac, str n.f.nm, .bool n.f.nl, i64 n.f.k, i64 n.f.wd, i64 n.f.id, i64 n.f.ix, .slice fa n.f.sub.length fc, .bool n.ind] 74 (0, 0)) :: (lr, .loop bz) :: (d, .deferred (some [])) :: (b2, Obj.cells #[yv] 69 (0, 0)) :: (C ++ (bw, Obj.cells cs.toArray 3 (0, 0)) :: Mx), wb.heap.size ≤ p.1 := fun p hp => by
        rcases List.mem_cons.1 hp with rfl | hp
        · exact hbc
        · exact hLn p hp
      refine ⟨rfl, (Stab.of_mem (by simp) hnd (by subst hbz; exact hn1)), ?_⟩
      simp (disch := omega) only [push_cast, Nat.reduceEqDiff]
      refine bs_22_1 (newI fun b13 hb13 hn13 => ?_)
      have hnew : ∀ p ∈ (b13, Obj.cells #[str n.f.nm, .bool n.f.nl, i64 n.f.k, i64 n.f.wd, i64 n.f.id, i64 n.f.ix, .slice fa n.f.sub.length fc] 38 (0, 0)) :: (bc, Obj.cells cs2.toArray 3 (0, 0)) :: (b7, Obj.cells #[.slice (some ⟨bw, 0, none⟩) n.path.length cap, .slice aa n.ah.length ac, str n.f.nm, .bool n.f.nl, i64 n.f.k, i64 n.f.wd, i64 n.f.id, i64 n.f.ix, .slice fa n.f.sub.length fc, .bool n.ind] 74 (0, 0)) :: (lr, .loop bz) :: (d, .deferred (some [])) :: (b2, Obj.cells #[yv] 69 (0, 0)) :: (C ++ (bw, Obj.cells cs.toArray 3 (0, 0)) :: Mx), wb.heap.size ≤ p.1 := fun p hp => by
        rcases List.mem_cons.1 hp with rfl | hp
        · exact hb13
        · exact hn1 p hp
      have hp : ((b13, Obj.cells #[str n.f.nm, .bool n.f.nl, i64 n.f.k, i64 n.f.wd, i64 n.f.id, i64 n.f.ix, .slice fa n.f.sub.length fc] 38 (0, 0)) :: (bc, Obj.cells cs2.toArray 3 (0, 0)) :: (b7, Obj.cells #[.slice (some ⟨bw, 0, none⟩) n.path.length cap, .slice aa n.ah.length ac, str n.f.nm, .bool n.f.nl, i64 n.f.k, i64 n.f.wd, i64 n.f.id, i64 n.f.ix, .slice fa n.f.sub.length fc, .bool n.ind] 74 (0, 0)) :: (lr, .loop bz) :: (d, .deferred (some [])) :: (b2, Obj.cells #[yv] 69 (0, 0)) :: (C ++ (bw, Obj.cells cs.toArray 3 (0, 0)) :: Mx)).Perm (C ++ ((bc, Obj.cells cs2.toArray 3 (0, 0)) :: (b13, Obj.cells #[str n.f.nm, .bool n.f.nl, i64 n.f.k, i64 n.f.wd, i64 n.f.id, i64 n.f.ix, .slice fa n.f.sub.length fc] 38 (0, 0)) :: (b7, Obj.cells #[.slice (some ⟨bw, 0, none⟩) n.path.length cap, .slice aa n.ah.length ac, str n.f.nm, .bool n.f.nl, i64 n.f.k, i64 n.f.wd, i64 n.f.id, i64 n.f.ix, .slice fa n.f.sub.length fc, .bool n.ind] 74 (0, 0)) :: (lr, .loop bz) :: (d, .deferred (some [])) :: (b2, Obj.cells #[yv] 69 (0, 0)) :: (bw, Obj.cells cs.toArray 3 (0, 0)) :: Mx)) := (List.Perm.swap _ _ _).trans (List.perm_append_comm_assoc [(bc, Obj.cells cs2.toArray 3 (0, 0)), (b13, Obj.cells #[str n.f.nm, .bool n.f.nl, i64 n.f.k, i64 n.f.wd, i64 n.f.id, i64 n.f.ix, .slice fa n.f.sub.length fc] 38 (0, 0)), (b7, Obj.cells #[.slice (some ⟨bw, 0, none⟩) n.path.length cap, .slice aa n.ah.length ac, str n.f.nm, .bool n.f.nl, i64 n.f.k, i64 n.f.wd, i64 n.f.id, i64 n.f.ix, .slice fa n.f.sub.length fc, .bool n.ind] 74 (0, 0)), (lr, .loop bz), (d, .deferred (some [])), (b2, Obj.cells #[yv] 69 (0, 0))] C ((bw, Obj.cells cs.toArray 3 (0, 0)) :: Mx))
      refine ⟨rfl, (Stab.of_mem (by simp) hnd (by subst hbz; exact hnew)), ?_⟩
      refine forgetF (fun e => e 7 = yv ∧ e 10 = .slice (some ⟨bc, 0, none⟩) n.path.length cap2 ∧ e 13 = .slice (some ⟨b13, 0, none⟩) 1 1) ⟨rfl, rfl, rfl⟩ (fun e he => ?_)
      obtain ⟨h7, h10, h13⟩ := he
      simp (disch := omega) only [push_cast, Nat.reduceEqDiff, h7, h10, h13]
      have hokn := hok n (List.mem_of_getElem? hkn)
      refine callV en_39 (callX_new (S := fun v M => CopyS v M [n.f]) (fun w' hw' => copied_walk w' w'.heap.size [n.f] (some ⟨b13, 0, none⟩) 1 (Nat.le_refl _) (.cons (hw'.lt (.head _)) hfc hnm hfc2 (At.of_own hw' (.head _) rfl) (hrf.toRd (Held.of_sy hw' (fun p hp => .tail _ (.tail _ (.tail _ (.tail _ (.tail _ (.tail _ (List.mem_append_right _ (.tail _ (hMx0 p hp)))))))))))  (.nil _)) (by simp) (by omega) (by simp) (by simp only [okT, hokn, Bool.and_self])) (fun v M3 hM3 hMn3 hS => ?_))
      obtain ⟨a2, c2, xs2, rfl, z1, z2, z3, z4, z5⟩ := hS
      rcases z5 with z5 | ⟨b5, cs5, ty, rfl, hmb, htk⟩
      · cases z5
      obtain ⟨a3, c3, r3, hx3, y1, y2, y3, y4, y5⟩ := z3
      obtain rfl : r3 = [] := y5
      rw [List.append_nil] at hx3
      subst hx3
      have hnew3 : ∀ p ∈ M3 ++ ((b13, Obj.cells #[str n.f.nm, .bool n.f.nl, i64 n.f.k, i64 n.f.wd, i64 n.f.id, i64 n.f.ix, .slice fa n.f.sub.length fc] 38 (0, 0)) :: (bc, Obj.cells cs2.toArray 3 (0, 0)) :: (b7, Obj.cells #[.slice (some ⟨bw, 0, none⟩) n.path.length cap, .slice aa n.ah.length ac, str n.f.nm, .bool n.f.nl, i64 n.f.k, i64 n.f.wd, i64 n.f.id, i64 n.f.ix, .slice fa n.f.sub.length fc, .bool n.ind] 74 (0, 0)) :: (lr, .loop bz) :: (d, .deferred (some [])) :: (b2, Obj.cells #[yv] 69 (0, 0)) :: (C ++ (bw, Obj.cells cs.toArray 3 (0, 0)) :: Mx)), wb.heap.size ≤ p.1 := fun p hp => by
        rcases List.mem_append.1 hp with hp | hp
        · exact hM3 p hp
        · exact hnew p hp
      have hst3 : Stab wb (M3 ++ ((b13, Obj.cells #[str n.f.nm, .bool n.f.nl, i64 n.f.k, i64 n.f.wd, i64 n.f.id, i64 n.f.ix, .slice fa n.f.sub.length fc] 38 (0, 0)) :: (bc, Obj.cells cs2.toArray 3 (0, 0)) :: (b7, Obj.cells #[.slice (some ⟨bw, 0, none⟩) n.path.length cap, .slice aa n.ah.length ac, str n.f.nm, .bool n.f.nl, i64 n.f.k, i64 n.f.wd, i64 n.f.id, i64 n.f.ix, .slice fa n.f.sub.length fc, .bool n.ind] 74 (0, 0)) :: (lr, .loop bz) :: (d, .deferred (some [])) :: (b2, Obj.cells #[yv] 69 (0, 0)) :: (C ++ (bw, Obj.cells cs.toArray 3 (0, 0)) :: Mx))) [(b7, Obj.cells #[.slice (some ⟨bw, 0, none⟩) n.path.length cap, .slice aa n.ah.length ac, str n.f.nm, .bool n.f.nl, i64 n.f.k, i64 n.f.wd, i64 n.f.id, i64 n.f.ix, .slice fa n.f.sub.length fc, .bool n.ind] 74 (0, 0)), (b2, Obj.cells #[yv] 69 (0, 0))] := Stab.of_mem (by simp) hnd hnew3
      refine ⟨rfl, by subst hbz; exact hst3, ?_⟩
      simp (disch := omega) only [push_cast, Nat.reduceEqDiff, h7, h10, h13, List.length_singleton]
      refine ⟨by subst hbz; exact hst3, ?_⟩
      refine loadX_agg Shp.eq (List.mem_append_left _ hmb) (by simpa using htk) rfl ?_
      simp (disch := omega) only [push_cast, Nat.reduceEqDiff, h7, h10, h13, Fld.cells]
      refine ⟨by subst hbz; exact hst3, ?_⟩
      have hA : ∀ C1 : Own, (∀ p ∈ C1, wb.heap.size ≤ p.1) → ∀ p ∈ (lr, .loop bz) :: (d, .deferred (some [])) :: (b2, Obj.cells #[yv] 69 (0, 0)) :: (C1 ++ ((b13, Obj.cells #[str n.f.nm, .bool n.f.nl, i64 n.f.k, i64 n.f.wd, i64 n.f.id, i64 n.f.ix, .slice fa n.f.sub.length fc] 38 (0, 0)) :: (b7, Obj.cells #[.slice (some ⟨bw, 0, none⟩) n.path.length cap, .slice aa n.ah.length ac, str n.f.nm, .bool n.f.nl, i64 n.f.k, i64 n.f.wd, i64 n.f.id, i64 n.f.ix, .slice fa n.f.sub.length fc, .bool n.ind] 74 (0, 0)) :: (bw, Obj.cells cs.toArray 3 (0, 0)) :: Mx)), wb.heap.size ≤ p.1 := fun C1 h1 p hp => by
        simp only [List.mem_cons, List.mem_append] at hp
        rcases hp with rfl | rfl | rfl | hp | rfl | rfl | rfl | hp
        · exact hlr
        · exact hd
        · exact hb2
        · exact h1 p hp
        · exact hnew _ (.head _)
        · exact hb7
        · exact hbw
        · exact hMx p hp
      have hN3 : ∀ p ∈ ((bc, Obj.cells cs2.toArray 3 (0, 0)) :: M3) ++ ((b13, Obj.cells #[str n.f.nm, .bool n.f.nl, i64 n.f.k, i64 n.f.wd, i64 n.f.id, i64 n.f.ix, .slice fa n.f.sub.length fc] 38 (0, 0)) :: (b7, Obj.cells #[.slice (some ⟨bw, 0, none⟩) n.path.length cap, .slice aa n.ah.length ac, str n.f.nm, .bool n.f.nl, i64 n.f.k, i64 n.f.wd, i64 n.f.id, i64 n.f.ix, .slice fa n.f.sub.length fc, .bool n.ind] 74 (0, 0)) :: (lr, .loop bz) :: (d, .deferred (some [])) :: (b2, Obj.cells #[yv] 69 (0, 0)) :: (bw, Obj.cells cs.toArray 3 (0, 0)) :: Mx), wb.heap.size ≤ p.1 := fun p h => by
        rcases List.mem_append.1 h with h | h
        · rcases List.mem_cons.1 h with rfl | h
          · exact hbc
          · exact hM3 p h
        · exact hnew p (hp.mem_iff.2 (List.mem_append_right C (.tail _ h)))
      have hq : ∀ C1 : Own, (C1 ++ ((b13, Obj.cells #[str n.f.nm, .bool n.f.nl, i64 n.f.k, i64 n.f.wd, i64 n.f.id, i64 n.f.ix, .slice fa n.f.sub.length fc] 38 (0, 0)) :: (b7, Obj.cells #[.slice (some ⟨bw, 0, none⟩) n.path.length cap, .slice aa n.ah.length ac, str n.f.nm, .bool n.f.nl, i64 n.f.k, i64 n.f.wd, i64 n.f.id, i64 n.f.ix, .slice fa n.f.sub.length fc, .bool n.ind] 74 (0, 0)) :: (lr, .loop bz) :: (d, .deferred (some [])) :: (b2, Obj.cells #[yv] 69 (0, 0)) :: (bw, Obj.cells cs.toArray 3 (0, 0)) :: Mx)).Perm ((lr, .loop bz) :: (d, .deferred (some [])) :: (b2, Obj.cells #[yv] 69 (0, 0)) :: (C1 ++ ((b13, Obj.cells #[str n.f.nm, .bool n.f.nl, i64 n.f.k, i64 n.f.wd, i64 n.f.id, i64 n.f.ix, .slice fa n.f.sub.length fc] 38 (0, 0)) :: (b7, Obj.cells #[.slice (some ⟨bw, 0, none⟩) n.path.length cap, .slice aa n.ah.length ac, str n.f.nm, .bool n.f.nl, i64 n.f.k, i64 n.f.wd, i64 n.f.id, i64 n.f.ix, .slice fa n.f.sub.length fc, .bool n.ind] 74 (0, 0)) :: (bw, Obj.cells cs.toArray 3 (0, 0)) :: Mx))) := fun C1 => (List.Perm.append_left C1 (List.perm_append_comm_assoc [(b13, Obj.cells #[str n.f.nm, .bool n.f.nl, i64 n.f.k, i64 n.f.wd, i64 n.f.id, i64 n.f.ix, .slice fa n.f.sub.length fc] 38 (0, 0)), (b7, Obj.cells #[.slice (some ⟨bw, 0, none⟩) n.path.length cap, .slice aa n.ah.length ac, str n.f.nm, .bool n.f.nl, i64 n.f.k, i64 n.f.wd, i64 n.f.id, i64 n.f.ix, .slice fa n.f.sub.length fc, .bool n.ind] 74 (0, 0))] [(lr, .loop bz), (d, .deferred (some [])), (b2, Obj.cells #[yv] 69 (0, 0))] ((bw, Obj.cells cs.toArray 3 (0, 0)) :: Mx))).trans (List.perm_append_comm_assoc C1 [(lr, .loop bz), (d, .deferred (some [])), (b2, Obj.cells #[yv] 69 (0, 0))] ((b13, Obj.cells #[str n.f.nm, .bool n.f.nl, i64 n.f.k, i64 n.f.wd, i64 n.f.id, i64 n.f.ix, .slice fa n.f.sub.length fc] 38 (0, 0)) :: (b7, Obj.cells #[.slice (some ⟨bw, 0, none⟩) n.path.length cap, .slice aa n.ah.length ac, str n.f.nm, .bool n.f.nl, i64 n.f.k, i64 n.f.wd, i64 n.f.id, i64 n.f.ix, .slice fa n.f.sub.length fc, .bool n.ind] 74 (0, 0)) :: (bw, Obj.cells cs.toArray 3 (0, 0)) :: Mx))
      have hX : ∀ p ∈ ([(b13, Obj.cells #[str n.f.nm, .bool n.f.nl, i64 n.f.k, i64 n.f.wd, i64 n.f.id, i64 n.f.ix, .slice fa n.f.sub.length fc] 38 (0, 0)), (b7, Obj.cells #[.slice (some ⟨bw, 0, none⟩) n.path.length cap, .slice aa n.ah.length ac, str n.f.nm, .bool n.f.nl, i64 n.f.k, i64 n.f.wd, i64 n.f.id, i64 n.f.ix, .slice fa n.f.sub.length fc, .bool n.ind] 74 (0, 0))] : Own), wb.heap.size ≤ p.1 := fun p h => by
        simp only [List.mem_cons, List.mem_nil_iff, or_false] at h
        rcases h with rfl | rfl
        · exact hb13
        · exact hb7
      have hX2 : ∀ p ∈ ([(b13, Obj.cells #[str n.f.nm, .bool n.f.nl, i64 n.f.k, i64 n.f.wd, i64 n.f.id, i64 n.f.ix, .slice fa n.f.sub.length fc] 38 (0, 0)), (b7, Obj.cells #[.slice (some ⟨bw, 0, none⟩) n.path.length cap, .slice aa n.ah.length ac, str n.f.nm, .bool n.f.nl, i64 n.f.k, i64 n.f.wd, i64 n.f.id, i64 n.f.ix, .slice fa n.f.sub.length fc, .bool n.ind] 74 (0, 0)), (bw, Obj.cells cs.toArray 3 (0, 0))] : Own), wb.heap.size ≤ p.1 := fun p h => by
        simp only [List.mem_cons, List.mem_nil_iff, or_false] at h
        rcases h with rfl | rfl | rfl
        · exact hb13
        · exact hb7
        · exact hbw
      refine callV_two (fun L' => ∃ C1, I (k + 1) C1 ∧ L' = (lr, .loop bz) :: (d, .deferred (some [])) :: (b2, Obj.cells #[yv] 69 (0, 0)) :: (C1 ++ ((b13, Obj.cells #[str n.f.nm, .bool n.f.nl, i64 n.f.k, i64 n.f.wd, i64 n.f.id, i64 n.f.ix, .slice fa n.f.sub.length fc] 38 (0, 0)) :: (b7, Obj.cells #[.slice (some ⟨bw, 0, none⟩) n.path.length cap, .slice aa n.ah.length ac, str n.f.nm, .bool n.f.nl, i64 n.f.k, i64 n.f.wd, i64 n.f.id, i64 n.f.ix, .slice fa n.f.sub.length fc, .bool n.ind] 74 (0, 0)) :: (bw, Obj.cells cs.toArray 3 (0, 0)) :: Mx))) (fun L' => ∃ C1, J k C1 ∧ L' = (lr, .loop bz) :: (d, .deferred (some [])) :: (b2, Obj.cells #[yv] 69 (0, 0)) :: (C1 ++ ((b13, Obj.cells #[str n.f.nm, .bool n.f.nl, i64 n.f.k, i64 n.f.wd, i64 n.f.id, i64 n.f.ix, .slice fa n.f.sub.length fc] 38 (0, 0)) :: (b7, Obj.cells #[.slice (some ⟨bw, 0, none⟩) n.path.length cap, .slice aa n.ah.length ac, str n.f.nm, .bool n.f.nl, i64 n.f.k, i64 n.f.wd, i64 n.f.id, i64 n.f.ix, .slice fa n.f.sub.length fc, .bool n.ind] 74 (0, 0)) :: (bw, Obj.cells cs.toArray 3 (0, 0)) :: Mx))) (by exact h7) (by simp (disch := omega) only [push_cast, Nat.reduceEqDiff, h10]) hy.hen (fun w' hw' => ?_) ?_ ?_
      · have hw2 : Sy wb (M3 ++ ((b13, Obj.cells #[str n.f.nm, .bool n.f.nl, i64 n.f.k, i64 n.f.wd, i64 n.f.id, i64 n.f.ix, .slice fa n.f.sub.length fc] 38 (0, 0)) :: (bc, Obj.cells cs2.toArray 3 (0, 0)) :: (b7, Obj.cells #[.slice (some ⟨bw, 0, none⟩) n.path.length cap, .slice aa n.ah.length ac, str n.f.nm, .bool n.f.nl, i64 n.f.k, i64 n.f.wd, i64 n.f.id, i64 n.f.ix, .slice fa n.f.sub.length fc, .bool n.ind] 74 (0, 0)) :: (lr, .loop bz) :: (d, .deferred (some [])) :: (b2, Obj.cells #[yv] 69 (0, 0)) :: (C ++ (bw, Obj.cells cs.toArray 3 (0, 0)) :: Mx))) w' := by subst hbz; exact hw'
        refine (hy.call k n hkn C ((bc, Obj.cells cs2.toArray 3 (0, 0)) :: M3) ((b13, Obj.cells #[str n.f.nm, .bool n.f.nl, i64 n.f.k, i64 n.f.wd, i64 n.f.id, i64 n.f.ix, .slice fa n.f.sub.length fc] 38 (0, 0)) :: (b7, Obj.cells #[.slice (some ⟨bw, 0, none⟩) n.path.length cap, .slice aa n.ah.length ac, str n.f.nm, .bool n.f.nl, i64 n.f.k, i64 n.f.wd, i64 n.f.id, i64 n.f.ix, .slice fa n.f.sub.length fc, .bool n.ind] 74 (0, 0)) :: (lr, .loop bz) :: (d, .deferred (some [])) :: (b2, Obj.cells #[yv] 69 (0, 0)) :: (bw, Obj.cells cs.toArray 3 (0, 0)) :: Mx) bc cap2 cs2 a3 c3 hI (.head _) hcc1 hcc2 (by omega) (by simpa using hcct) (y4.mono fun w hw p hp => hw p (.tail _ hp)) y1 y3 y2 hpl hN3 (fun p hp => .tail _ (.tail _ (.tail _ (.tail _ (.tail _ (.tail _ (hMx0 p (hM0 p hp)))))))) w' (hw2.perm (((List.Perm.append_left M3 hp).trans (List.perm_append_comm_assoc M3 C _)).trans (List.Perm.append_left C List.perm_middle)))).mono ?_
        rintro e5 w5 (⟨rfl, C1, h1, h2⟩ | ⟨rfl, C1, h1, h2⟩)
        · exact .inl ⟨rfl, _, ⟨C1, h1, rfl⟩, h2.perm (hq C1)⟩
        · exact .inr ⟨rfl, _, ⟨C1, h1, rfl⟩, h2.perm (hq C1)⟩
      · rintro L' ⟨C1, hI1, rfl⟩
        have hs5 : Stab wb ((lr, .loop bz) :: (d, .deferred (some [])) :: (b2, Obj.cells #[yv] 69 (0, 0)) :: (C1 ++ ((b13, Obj.cells #[str n.f.nm, .bool n.f.nl, i64 n.f.k, i64 n.f.wd, i64 n.f.id, i64 n.f.ix, .slice fa n.f.sub.length fc] 38 (0, 0)) :: (b7, Obj.cells #[.slice (some ⟨bw, 0, none⟩) n.path.length cap, .slice aa n.ah.length ac, str n.f.nm, .bool n.f.nl, i64 n.f.k, i64 n.f.wd, i64 n.f.id, i64 n.f.ix, .slice fa n.f.sub.length fc, .bool n.ind] 74 (0, 0)) :: (bw, Obj.cells cs.toArray 3 (0, 0)) :: Mx))) [(b7, Obj.cells #[.slice (some ⟨bw, 0, none⟩) n.path.length cap, .slice aa n.ah.length ac, str n.f.nm, .bool n.f.nl, i64 n.f.k, i64 n.f.wd, i64 n.f.id, i64 n.f.ix, .slice fa n.f.sub.length fc, .bool n.ind] 74 (0, 0)), (b2, Obj.cells #[yv] 69 (0, 0))] := Stab.of_mem (by simp) hnd (hA C1 (hy.apart _ _ hI1))
        refine ⟨rfl, hs5, ?_⟩
        simp (disch := omega) only [push_cast, Nat.reduceEqDiff, h7]
        refine ⟨hs5, ?_⟩
        rw [V_cond]
        simp (disch := omega) only [push_cast, Nat.reduceEqDiff, h7, Bool.not_true]
        subst hbz
        exact ⟨0, _, rfl, fun w4 hw4 => .inl ⟨rfl, _, ⟨_ :: _ :: _ :: C1, ⟨C1, hI1, rfl⟩, rfl⟩, hw4.mid (_ :: _ :: _ :: C1) _ hX⟩⟩
      · rintro L' ⟨C1, hJ1, rfl⟩
        have hs5 : Stab wb ((lr, .loop bz) :: (d, .deferred (some [])) :: (b2, Obj.cells #[yv] 69 (0, 0)) :: (C1 ++ ((b13, Obj.cells #[str n.f.nm, .bool n.f.nl, i64 n.f.k, i64 n.f.wd, i64 n.f.id, i64 n.f.ix, .slice fa n.f.sub.length fc] 38 (0, 0)) :: (b7, Obj.cells #[.slice (some ⟨bw, 0, none⟩) n.path.length cap, .slice aa n.ah.length ac, str n.f.nm, .bool n.f.nl, i64 n.f.k, i64 n.f.wd, i64 n.f.id, i64 n.f.ix, .slice fa n.f.sub.length fc, .bool n.ind] 74 (0, 0)) :: (bw, Obj.cells cs.toArray 3 (0, 0)) :: Mx))) [(b7, Obj.cells #[.slice (some ⟨bw, 0, none⟩) n.path.length cap, .slice aa n.ah.length ac, str n.f.nm, .bool n.f.nl, i64 n.f.k, i64 n.f.wd, i64 n.f.id, i64 n.f.ix, .slice fa n.f.sub.length fc, .bool n.ind] 74 (0, 0)), (b2, Obj.cells #[yv] 69 (0, 0))] := Stab.of_mem (by simp) hnd (hA C1 (hy.apartJ _ _ hJ1))
        refine ⟨rfl, hs5, ?_⟩
        simp (disch := omega) only [push_cast, Nat.reduceEqDiff, h7]
        refine ⟨hs5, ?_⟩
        rw [V_cond]
        simp (disch := omega) only [push_cast, Nat.reduceEqDiff, h7, Bool.not_false]
        subst hbz
        exact ⟨0, _, rfl, fun w4 hw4 => .inr ⟨rfl, _, ⟨_ :: _ :: _ :: C1, ⟨C1, _, hJ1, rfl, rfl, rfl⟩, rfl⟩, hw4.mid (_ :: _ :: _ :: C1) _ hX2⟩⟩
    · simp (disch := omega) only [push_cast, Nat.reduceEqDiff]
      refine bs_22_1 (newI fun b13 hb13 hn13 => ?_)
      have hn1 : ∀ p ∈ (b13, Obj.cells #[str n.f.nm, .bool n.f.nl, i64 n.f.k, i64 n.f.wd, i64 n.f.id, i64 n.f.ix, .slice fa n.f.sub.length fc] 38 (0, 0)) :: (b7, Obj.cells #[.slice (some ⟨bw, 0, none⟩) n.path.length cap, .slice aa n.ah.length ac, str n.f.nm, .bool n.f.nl, i64 n.f.k, i64 n.f.wd, i64 n.f.id, i64 n.f.ix, .slice fa n.f.sub.length fc, .bool n.ind] 74 (0, 0)) :: (lr, .loop bz) :: (d, .deferred (some [])) :: (b2, Obj.cells #[yv] 69 (0, 0)) :: (C ++ (bw, Obj.cells cs.toArray 3 (0, 0)) :: Mx), wb.heap.size ≤ p.1 := fun p hp => by
        rcases List.mem_cons.1 hp with rfl | hp
        · exact hb13
        · exact hLn p hp
      refine ⟨rfl, (Stab.of_mem (by simp) hnd (by subst hbz; exact hn1)), ?_⟩
      simp (disch := omega) only [push_cast, Nat.reduceEqDiff]
      refine callV en_42 (callX_own (fun w' hw' => clone_walk wb w' _ hw' _ n.path.length (ints n.path) ⟨by simp [ints], .inr ⟨bw, cap, cs, rfl, by simp, hpc, hcm, hcl, hct⟩⟩ (by omega) (ints_one _)) (fun v1 L1 hro => ?_))
      obtain ⟨hxl, ⟨_, h0', _⟩ | ⟨bc, cap2, cs2, rfl, rfl, hbc, hcc1, hcc2, hccl, hcct⟩⟩ := hro
      · exact absurd h0' hpn
      have hnew : ∀ p ∈ (bc, Obj.cells cs2.toArray 3 (0, 0)) :: (b13, Obj.cells #[str n.f.nm, .bool n.f.nl, i64 n.f.k, i64 n.f.wd, i64 n.f.id, i64 n.f.ix, .slice fa n.f.sub.length fc] 38 (0, 0)) :: (b7, Obj.cells #[.slice (some ⟨bw, 0, none⟩) n.path.length cap, .slice aa n.ah.length ac, str n.f.nm, .bool n.f.nl, i64 n.f.k, i64 n.f.wd, i64 n.f.id, i64 n.f.ix, .slice fa n.f.sub.length fc, .bool n.ind] 74 (0, 0)) :: (lr, .loop bz) :: (d, .deferred (some [])) :: (b2, Obj.cells #[yv] 69 (0, 0)) :: (C ++ (bw, Obj.cells cs.toArray 3 (0, 0)) :: Mx), wb.heap.size ≤ p.1 := fun p hp => by
        rcases List.mem_cons.1 hp with rfl | hp
        · exact hbc
        · exact hn1 p hp
      have hp : ((bc, Obj.cells cs2.toArray 3 (0, 0)) :: (b13, Obj.cells #[str n.f.nm, .bool n.f.nl, i64 n.f.k, i64 n.f.wd, i64 n.f.id, i64 n.f.ix, .slice fa n.f.sub.length fc] 38 (0, 0)) :: (b7, Obj.cells #[.slice (some ⟨bw, 0, none⟩) n.path.length cap, .slice aa n.ah.length ac, str n.f.nm, .bool n.f.nl, i64 n.f.k, i64 n.f.wd, i64 n.f.id, i64 n.f.ix, .slice fa n.f.sub.length fc, .bool n.ind] 74 (0, 0)) :: (lr, .loop bz) :: (d, .deferred (some [])) :: (b2, Obj.cells #[yv] 69 (0, 0)) :: (C ++ (bw, Obj.cells cs.toArray 3 (0, 0)) :: Mx)).Perm (C ++ ((bc, Obj.cells cs2.toArray 3 (0, 0)) :: (b13, Obj.cells #[str n.f.nm, .bool n.f.nl, i64 n.f.k, i64 n.f.wd, i64 n.f.id, i64 n.f.ix, .slice fa n.f.sub.length fc] 38 (0, 0)) :: (b7, Obj.cells #[.slice (some ⟨bw, 0, none⟩) n.path.length cap, .slice aa n.ah.length ac, str n.f.nm, .bool n.f.nl, i64 n.f.k, i64 n.f.wd, i64 n.f.id, i64 n.f.ix, .slice fa n.f.sub.length fc, .bool n.ind] 74 (0, 0)) :: (lr, .loop bz) :: (d, .deferred (some [])) :: (b2, Obj.cells #[yv] 69 (0, 0)) :: (bw, Obj.cells cs.toArray 3 (0, 0)) :: Mx)) := List.perm_append_comm_assoc [(bc, Obj.cells cs2.toArray 3 (0, 0)), (b13, Obj.cells #[str n.f.nm, .bool n.f.nl, i64 n.f.k, i64 n.f.wd, i64 n.f.id, i64 n.f.ix, .slice fa n.f.sub.length fc] 38 (0, 0)), (b7, Obj.cells #[.slice (some ⟨bw, 0, none⟩) n.path.length cap, .slice aa n.ah.length ac, str n.f.nm, .bool n.f.nl, i64 n.f.k, i64 n.f.wd, i64 n.f.id, i64 n.f.ix, .slice fa n.f.sub.length fc, .bool n.ind] 74 (0, 0)), (lr, .loop bz), (d, .deferred (some [])), (b2, Obj.cells #[yv] 69 (0, 0))] C ((bw, Obj.cells cs.toArray 3 (0, 0)) :: Mx)
      refine ⟨rfl, (Stab.of_mem (by simp) hnd (by subst hbz; exact hnew)), ?_⟩
      refine forgetF (fun e => e 7 = yv ∧ e 10 = .slice (some ⟨bc, 0, none⟩) n.path.length cap2 ∧ e 13 = .slice (some ⟨b13, 0, none⟩) 1 1) ⟨rfl, rfl, rfl⟩ (fun e he => ?_)
      obtain ⟨h7, h10, h13⟩ := he
      simp (disch := omega) only [push_cast, Nat.reduceEqDiff, h7, h10, h13]
      have hokn := hok n (List.mem_of_getElem? hkn)
      refine callV en_39 (callX_new (S := fun v M => CopyS v M [n.f]) (fun w' hw' => copied_walk w' w'.heap.size [n.f] (some ⟨b13, 0, none⟩) 1 (Nat.le_refl _) (.cons (hw'.lt (.tail _ (.head _))) hfc hnm hfc2 (At.of_own hw' (.tail _ (.head _)) rfl) (hrf.toRd (Held.of_sy hw' (fun p hp => .tail _ (.tail _ (.tail _ (.tail _ (.tail _ (.tail _ (List.mem_append_right _ (.tail _ (hMx0 p hp)))))))))))  (.nil _)) (by simp) (by omega) (by simp) (by simp only [okT, hokn, Bool.and_self])) (fun v M3 hM3 hMn3 hS => ?_))
      obtain ⟨a2, c2, xs2, rfl, z1, z2, z3, z4, z5⟩ := hS
      rcases z5 with z5 | ⟨b5, cs5, ty, rfl, hmb, htk⟩
      · cases z5
      obtain ⟨a3, c3, r3, hx3, y1, y2, y3, y4, y5⟩ := z3
      obtain rfl : r3 = [] := y5
      rw [List.append_nil] at hx3
      subst hx3
      have hnew3 : ∀ p ∈ M3 ++ ((bc, Obj.cells cs2.toArray 3 (0, 0)) :: (b13, Obj.cells #[str n.f.nm, .bool n.f.nl, i64 n.f.k, i64 n.f.wd, i64 n.f.id, i64 n.f.ix, .slice fa n.f.sub.length fc] 38 (0, 0)) :: (b7, Obj.cells #[.slice (some ⟨bw, 0, none⟩) n.path.length cap, .slice aa n.ah.length ac, str n.f.nm, .bool n.f.nl, i64 n.f.k, i64 n.f.wd, i64 n.f.id, i64 n.f.ix, .slice fa n.f.sub.length fc, .bool n.ind] 74 (0, 0)) :: (lr, .loop bz) :: (d, .deferred (some [])) :: (b2, Obj.cells #[yv] 69 (0, 0)) :: (C ++ (bw, Obj.cells cs.toArray 3 (0, 0)) :: Mx)), wb.heap.size ≤ p.1 := fun p hp => by
        rcases List.mem_append.1 hp with hp | hp
        · exact hM3 p hp
        · exact hnew p hp
      have hst3 : Stab wb (M3 ++ ((bc, Obj.cells cs2.toArray 3 (0, 0)) :: (b13, Obj.cells #[str n.f.nm, .bool n.f.nl, i64 n.f.k, i64 n.f.wd, i64 n.f.id, i64 n.f.ix, .slice fa n.f.sub.length fc] 38 (0, 0)) :: (b7, Obj.cells #[.slice (some ⟨bw, 0, none⟩) n.path.length cap, .slice aa n.ah.length ac, str n.f.nm, .bool n.f.nl, i64 n.f.k, i64 n.f.wd, i64 n.f.id, i64 n.f.ix, .slice fa n.f.sub.length fc, .bool n.ind] 74 (0, 0)) :: (lr, .loop bz) :: (d, .deferred (some [])) :: (b2, Obj.cells #[yv] 69 (0, 0)) :: (C ++ (bw, Obj.cells cs.toArray 3 (0, 0)) :: Mx))) [(b7, Obj.cells #[.slice (some ⟨bw, 0, none⟩) n.path.length cap, .slice aa n.ah.length ac, str n.f.nm, .bool n.f.nl, i64 n.f.k, i64 n.f.wd, i64 n.f.id, i64 n.f.ix, .slice fa n.f.sub.length fc, .bool n.ind] 74 (0, 0)), (b2, Obj.cells #[yv] 69 (0, 0))] := Stab.of_mem (by simp) hnd hnew3
      refine ⟨rfl, by subst hbz; exact hst3, ?_⟩
      simp (disch := omega) only [push_cast, Nat.reduceEqDiff, h7, h10, h13, List.length_singleton]
      refine ⟨by subst hbz; exact hst3, ?_⟩
      refine loadX_agg Shp.eq (List.mem_append_left _ hmb) (by simpa using htk) rfl ?_
      simp (disch := omega) only [push_cast, Nat.reduceEqDiff, h7, h10, h13, Fld.cells]
      refine ⟨by subst hbz; exact hst3, ?_⟩
      have hA : ∀ C1 : Own, (∀ p ∈ C1, wb.heap.size ≤ p.1) → ∀ p ∈ (lr, .loop bz) :: (d, .deferred (some [])) :: (b2, Obj.cells #[yv] 69 (0, 0)) :: (C1 ++ ((b13, Obj.cells #[str n.f.nm, .bool n.f.nl, i64 n.f.k, i64 n.f.wd, i64 n.f.id, i64 n.f.ix, .slice fa n.f.sub.length fc] 38 (0, 0)) :: (b7, Obj.cells #[.slice (some ⟨bw, 0, none⟩) n.path.length cap, .slice aa n.ah.length ac, str n.f.nm, .bool n.f.nl, i64 n.f.k, i64 n.f.wd, i64 n.f.id, i64 n.f.ix, .slice fa n.f.sub.length fc, .bool n.ind] 74 (0, 0)) :: (bw, Obj.cells cs.toArray 3 (0, 0)) :: Mx)), wb.heap.size ≤ p.1 := fun C1 h1 p hp => by
        simp only [List.mem_cons, List.mem_append] at hp
        rcases hp with rfl | rfl | rfl | hp | rfl | rfl | rfl | hp
        · exact hlr
        · exact hd
        · exact hb2
        · exact h1 p hp
        · exact hnew _ (.tail _ (.head _))
        · exact hb7
        · exact hbw
        · exact hMx p hp
      have hN3 : ∀ p ∈ ((bc, Obj.cells cs2.toArray 3 (0, 0)) :: M3) ++ ((b13, Obj.cells #[str n.f.nm, .bool n.f.nl, i64 n.f.k, i64 n.f.wd, i64 n.f.id, i64 n.f.ix, .slice fa n.f.sub.length fc] 38 (0, 0)) :: (b7, Obj.cells #[.slice (some ⟨bw, 0, none⟩) n.path.length cap, .slice aa n.ah.length ac, str n.f.nm, .bool n.f.nl, i64 n.f.k, i64 n.f.wd, i64 n.f.id, i64 n.f.ix, .slice fa n.f.sub.length fc, .bool n.ind] 74 (0, 0)) :: (lr, .loop bz) :: (d, .deferred (some [])) :: (b2, Obj.cells #[yv] 69 (0, 0)) :: (bw, Obj.cells cs.toArray 3 (0, 0)) :: Mx), wb.heap.size ≤ p.1 := fun p h => by
        rcases List.mem_append.1 h with h | h
        · rcases List.mem_cons.1 h with rfl | h
          · exact hbc
          · exact hM3 p h
        · exact hnew p (hp.mem_iff.2 (List.mem_append_right C (.tail _ h)))
      have hq : ∀ C1 : Own, (C1 ++ ((b13, Obj.cells #[str n.f.nm, .bool n.f.nl, i64 n.f.k, i64 n.f.wd, i64 n.f.id, i64 n.f.ix, .slice fa n.f.sub.length fc] 38 (0, 0)) :: (b7, Obj.cells #[.slice (some ⟨bw, 0, none⟩) n.path.length cap, .slice aa n.ah.length ac, str n.f.nm, .bool n.f.nl, i64 n.f.k, i64 n.f.wd, i64 n.f.id, i64 n.f.ix, .slice fa n.f.sub.length fc, .bool n.ind] 74 (0, 0)) :: (lr, .loop bz) :: (d, .deferred (some [])) :: (b2, Obj.cells #[yv] 69 (0, 0)) :: (bw, Obj.cells cs.toArray 3 (0, 0)) :: Mx)).Perm ((lr, .loop bz) :: (d, .deferred (some [])) :: (b2, Obj.cells #[yv] 69 (0, 0)) :: (C1 ++ ((b13, Obj.cells #[str n.f.nm, .bool n.f.nl, i64 n.f.k, i64 n.f.wd, i64 n.f.id, i64 n.f.ix, .slice fa n.f.sub.length fc] 38 (0, 0)) :: (b7, Obj.cells #[.slice (some ⟨bw, 0, none⟩) n.path.length cap, .slice aa n.ah.length ac, str n.f.nm, .bool n.f.nl, i64 n.f.k, i64 n.f.wd, i64 n.f.id, i64 n.f.ix, .slice fa n.f.sub.length fc, .bool n.ind] 74 (0, 0)) :: (bw, Obj.cells cs.toArray 3 (0, 0)) :: Mx))) := fun C1 => (List.Perm.append_left C1 (List.perm_append_comm_assoc [(b13, Obj.cells #[str n.f.nm, .bool n.f.nl, i64 n.f.k, i64 n.f.wd, i64 n.f.id, i64 n.f.ix, .slice fa n.f.sub.length fc] 38 (0, 0)), (b7, Obj.cells #[.slice (some ⟨bw, 0, none⟩) n.path.length cap, .slice aa n.ah.length ac, str n.f.nm, .bool n.f.nl, i64 n.f.k, i64 n.f.wd, i64 n.f.id, i64 n.f.ix, .slice fa n.f.sub.length fc, .bool n.ind] 74 (0, 0))] [(lr, .loop bz), (d, .deferred (some [])), (b2, Obj.cells #[yv] 69 (0, 0))] ((bw, Obj.cells cs.toArray 3 (0, 0)) :: Mx))).trans (List.perm_append_comm_assoc C1 [(lr, .loop bz), (d, .deferred (some [])), (b2, Obj.cells #[yv] 69 (0, 0))] ((b13, Obj.cells #[str n.f.nm, .bool n.f.nl, i64 n.f.k, i64 n.f.wd, i64 n.f.id, i64 n.f.ix, .slice fa n.f.sub.length fc] 38 (0, 0)) :: (b7, Obj.cells #[.slice (some ⟨bw, 0, none⟩) n.path.length cap, .slice aa n.ah.length ac, str n.f.nm, .bool n.f.nl, i64 n.f.k, i64 n.f.wd, i64 n.f.id, i64 n.f.ix, .slice fa n.f.sub.length fc, .bool n.ind] 74 (0, 0)) :: (bw, Obj.cells cs.toArray 3 (0, 0)) :: Mx))
      have hX : ∀ p ∈ ([(b13, Obj.cells #[str n.f.nm, .bool n.f.nl, i64 n.f.k, i64 n.f.wd, i64 n.f.id, i64 n.f.ix, .slice fa n.f.sub.length fc] 38 (0, 0)), (b7, Obj.cells #[.slice (some ⟨bw, 0, none⟩) n.path.length cap, .slice aa n.ah.length ac, str n.f.nm, .bool n.f.nl, i64 n.f.k, i64 n.f.wd, i64 n.f.id, i64 n.f.ix, .slice fa n.f.sub.length fc, .bool n.ind] 74 (0, 0))] : Own), wb.heap.size ≤ p.1 := fun p h => by
        simp only [List.mem_cons, List.mem_nil_iff, or_false] at h
        rcases h with rfl | rfl
        · exact hb13
        · exact hb7
      have hX2 : ∀ p ∈ ([(b13, Obj.cells #[str n.f.nm, .bool n.f.nl, i64 n.f.k, i64 n.f.wd, i64 n.f.id, i64 n.f.ix, .slice fa n.f.sub.length fc] 38 (0, 0)), (b7, Obj.cells #[.slice (some ⟨bw, 0, none⟩) n.path.length cap, .slice aa n.ah.length ac, str n.f.nm, .bool n.f.nl, i64 n.f.k, i64 n.f.wd, i64 n.f.id, i64 n.f.ix, .slice fa n.f.sub.length fc, .bool n.ind] 74 (0, 0)), (bw, Obj.cells cs.toArray 3 (0, 0))] : Own), wb.heap.size ≤ p.1 := fun p h => by
        simp only [List.mem_cons, List.mem_nil_iff, or_false] at h
        rcases h with rfl | rfl | rfl
        · exact hb13
        · exact hb7
        · exact hbw
      refine callV_two (fun L' => ∃ C1, I (k + 1) C1 ∧ L' = (lr, .loop bz) :: (d, .deferred (some [])) :: (b2, Obj.cells #[yv] 69 (0, 0)) :: (C1 ++ ((b13, Obj.cells #[str n.f.nm, .bool n.f.nl, i64 n.f.k, i64 n.f.wd, i64 n.f.id, i64 n.f.ix, .slice fa n.f.sub.length fc] 38 (0, 0)) :: (b7, Obj.cells #[.slice (some ⟨bw, 0, none⟩) n.path.length cap, .slice aa n.ah.length ac, str n.f.nm, .bool n.f.nl, i64 n.f.k, i64 n.f.wd, i64 n.f.id, i64 n.f.ix, .slice fa n.f.sub.length fc, .bool n.ind] 74 (0, 0)) :: (bw, Obj.cells cs.toArray 3 (0, 0)) :: Mx))) (fun L' => ∃ C1, J k C1 ∧ L' = (lr, .loop bz) :: (d, .deferred (some [])) :: (b2, Obj.cells #[yv] 69 (0, 0)) :: (C1 ++ ((b13, Obj.cells #[str n.f.nm, .bool n.f.nl, i64 n.f.k, i64 n.f.wd, i64 n.f.id, i64 n.f.ix, .slice fa n.f.sub.length fc] 38 (0, 0)) :: (b7, Obj.cells #[.slice (some ⟨bw, 0, none⟩) n.path.length cap, .slice aa n.ah.length ac, str n.f.nm, .bool n.f.nl, i64 n.f.k, i64 n.f.wd, i64 n.f.id, i64 n.f.ix, .slice fa n.f.sub.length fc, .bool n.ind] 74 (0, 0)) :: (bw, Obj.cells cs.toArray 3 (0, 0)) :: Mx))) (by exact h7) (by simp (disch := omega) only [push_cast, Nat.reduceEqDiff, h10]) hy.hen (fun w' hw' => ?_) ?_ ?_
      · have hw2 : Sy wb (M3 ++ ((bc, Obj.cells cs2.toArray 3 (0, 0)) :: (b13, Obj.cells #[str n.f.nm, .bool n.f.nl, i64 n.f.k, i64 n.f.wd, i64 n.f.id, i64 n.f.ix, .slice fa n.f.sub.length fc] 38 (0, 0)) :: (b7, Obj.cells #[.slice (some ⟨bw, 0, none⟩) n.path.length cap, .slice aa n.ah.length ac, str n.f.nm, .bool n.f.nl, i64 n.f.k, i64 n.f.wd, i64 n.f.id, i64 n.f.ix, .slice fa n.f.sub.length fc, .bool n.ind] 74 (0, 0)) :: (lr, .loop bz) :: (d, .deferred (some [])) :: (b2, Obj.cells #[yv] 69 (0, 0)) :: (C ++ (bw, Obj.cells cs.toArray 3 (0, 0)) :: Mx))) w' := by subst hbz; exact hw'
        refine (hy.call k n hkn C ((bc, Obj.cells cs2.toArray 3 (0, 0)) :: M3) ((b13, Obj.cells #[str n.f.nm, .bool n.f.nl, i64 n.f.k, i64 n.f.wd, i64 n.f.id, i64 n.f.ix, .slice fa n.f.sub.length fc] 38 (0, 0)) :: (b7, Obj.cells #[.slice (some ⟨bw, 0, none⟩) n.path.length cap, .slice aa n.ah.length ac, str n.f.nm, .bool n.f.nl, i64 n.f.k, i64 n.f.wd, i64 n.f.id, i64 n.f.ix, .slice fa n.f.sub.length fc, .bool n.ind] 74 (0, 0)) :: (lr, .loop bz) :: (d, .deferred (some [])) :: (b2, Obj.cells #[yv] 69 (0, 0)) :: (bw, Obj.cells cs.toArray 3 (0, 0)) :: Mx) bc cap2 cs2 a3 c3 hI (.head _) hcc1 hcc2 (by omega) (by simpa using hcct) (y4.mono fun w hw p hp => hw p (.tail _ hp)) y1 y3 y2 hpl hN3 (fun p hp => .tail _ (.tail _ (.tail _ (.tail _ (.tail _ (.tail _ (hMx0 p (hM0 p hp)))))))) w' (hw2.perm (((List.Perm.append_left M3 hp).trans (List.perm_append_comm_assoc M3 C _)).trans (List.Perm.append_left C List.perm_middle)))).mono ?_
        rintro e5 w5 (⟨rfl, C1, h1, h2⟩ | ⟨rfl, C1, h1, h2⟩)
        · exact .inl ⟨rfl, _, ⟨C1, h1, rfl⟩, h2.perm (hq C1)⟩
        · exact .inr ⟨rfl, _, ⟨C1, h1, rfl⟩, h2.perm (hq C1)⟩
      · rintro L' ⟨C1, hI1, rfl⟩
        have hs5 : Stab wb ((lr, .loop bz) :: (d, .deferred (some [])) :: (b2, Obj.cells #[yv] 69 (0, 0)) :: (C1 ++ ((b13, Obj.cells #[str n.f.nm, .bool n.f.nl, i64 n.f.k, i64 n.f.wd, i64 n.f.id, i64 n.f.ix, .slice fa n.f.sub.length fc] 38 (0, 0)) :: (b7, Obj.cells #[.slice (some ⟨bw, 0, none⟩) n.path.length cap, .slice aa n.ah.length ac, str n.f.nm, .bool n.f.nl, i64 n.f.k, i64 n.f.wd, i64 n.f.id, i64 n.f.ix, .slice fa n.f.sub.length fc, .bool n.ind] 74 (0, 0)) :: (bw, Obj.cells cs.toArray 3 (0, 0)) :: Mx))) [(b7, Obj.cells #[.slice (some ⟨bw, 0, none⟩) n.path.length cap, .slice aa n.ah.length ac, str n.f.nm, .bool n.f.nl, i64 n.f.k, i64 n.f.wd, i64 n.f.id, i64 n.f.ix, .slice fa n.f.sub.length fc, .bool n.ind] 74 (0, 0)), (b2, Obj.cells #[yv] 69 (0, 0))] := Stab.of_mem (by simp) hnd (hA C1 (hy.apart _ _ hI1))
        refine ⟨rfl, hs5, ?_⟩
        simp (disch := omega) only [push_cast, Nat.reduceEqDiff, h7]
        refine ⟨hs5, ?_⟩
        rw [V_cond]
        simp (disch := omega) only [push_cast, Nat.reduceEqDiff, h7, Bool.not_true]
        subst hbz
        exact ⟨0, _, rfl, fun w4 hw4 => .inl ⟨rfl, _, ⟨_ :: _ :: _ :: C1, ⟨C1, hI1, rfl⟩, rfl⟩, hw4.mid (_ :: _ :: _ :: C1) _ hX⟩⟩
      · rintro L' ⟨C1, hJ1, rfl⟩
        have hs5 : Stab wb ((lr, .loop bz) :: (d, .deferred (some [])) :: (b2, Obj.cells #[yv] 69 (0, 0)) :: (C1 ++ ((b13, Obj.cells #[str n.f.nm, .bool n.f.nl, i64 n.f.k, i64 n.f.wd, i64 n.f.id, i64 n.f.ix, .slice fa n.f.sub.length fc] 38 (0, 0)) :: (b7, Obj.cells #[.slice (some ⟨bw, 0, none⟩) n.path.length cap, .slice aa n.ah.length ac, str n.f.nm, .bool n.f.nl, i64 n.f.k, i64 n.f.wd, i64 n.f.id, i64 n.f.ix, .slice fa n.f.sub.length fc, .bool n.ind] 74 (0, 0)) :: (bw, Obj.cells cs.toArray 3 (0, 0)) :: Mx))) [(b7, Obj.cells #[.slice (some ⟨bw, 0, none⟩) n.path.length cap, .slice aa n.ah.length ac, str n.f.nm, .bool n.f.nl, i64 n.f.k, i64 n.f.wd, i64 n.f.id, i64 n.f.ix, .slice fa n.f.sub.length fc, .bool n.ind] 74 (0, 0)), (b2, Obj.cells #[yv] 69 (0, 0))] := Stab.of_mem (by simp) hnd (hA C1 (hy.apartJ _ _ hJ1))
        refine ⟨rfl, hs5, ?_⟩
        simp (disch := omega) only [push_cast, Nat.reduceEqDiff, h7]
        refine ⟨hs5, ?_⟩
        rw [V_cond]
        simp (disch := omega) only [push_cast, Nat.reduceEqDiff, h7, Bool.not_false]
        subst hbz
        exact ⟨0, _, rfl, fun w4 hw4 => .inr ⟨rfl, _, ⟨_ :: _ :: _ :: C1, ⟨C1, _, hJ1, rfl, rfl, rfl⟩, rfl⟩, hw4.mid (_ :: _ :: _ :: C1) _ hX2⟩⟩
      -- round ends
  · rintro en w4 ⟨rfl, h⟩
    rcases h with ⟨C', ⟨C1, hI1, rfl⟩, hw4⟩ | ⟨k, C', ⟨C1, rec', hJ1, hst, hpe, rfl⟩, hw4⟩
    · refine ⟨wb, _, 0, rec, rfl, by rw [hrec]; simp, hw4, ?_⟩
      have hp : rec.pending = none := by rw [hrec]
      rw [hp]
      simp (disch := omega) only [push_cast, Nat.reduceEqDiff, e2, e5]
      repeat' (first | ((first | refine guardX_t rfl (fun h => ?_) (fun h => ?_) | refine guardX_f rfl (fun h => ?_) (fun h => ?_) | refine condX_d (fun h => ?_) (fun h => ?_) | (refine guardX_bt rfl (fun h => ?_) (fun h => ?_) <;> (try subst h)) | (refine guardX_bf rfl (fun h => ?_) (fun h => ?_) <;> (try subst h)) | (refine condX_b (fun h => ?_) (fun h => ?_) <;> (try subst h)) | refine ldOne Shp.eq (by (first | exact mem0 | exact mem1 | exact mem2 | exact mem3 | exact mem4 | exact mem5)) rfl ?_ | refine loadX_agg Shp.eq (by (first | exact mem0 | exact mem1 | exact mem2 | exact mem3 | exact mem4 | exact mem5)) rfl rfl ?_ | refine newI (fun b hb hn => ?_) | refine storeX 0 rfl Siz.eq rfl rfl (by simp [Value.oneCell']) (by simp) ?_ | refine storeX 1 rfl Siz.eq rfl rfl (by simp [Value.oneCell']) (by simp) ?_ | refine storeX 2 rfl Siz.eq rfl rfl (by simp [Value.oneCell']) (by simp) ?_ | refine storeX 3 rfl Siz.eq rfl rfl (by simp [Value.oneCell']) (by simp) ?_ | refine storeX 4 rfl Siz.eq rfl rfl (by simp [Value.oneCell']) (by simp) ?_ | refine storeX 5 rfl Siz.eq rfl rfl (by simp [Value.oneCell']) (by simp) ?_ | refine storeX 6 rfl Siz.eq rfl rfl (by simp [Value.oneCell']) (by simp) ?_) <;> simp (disch := omega) only [push_cast, Nat.reduceEqDiff, e2, e5]))
      refine ⟨d, 1, rfl, rfl, ?_⟩
      simp (disch := omega) only [push_cast, Nat.reduceEqDiff, e2, e5]
      exact fun w5 hw5 => .inl ⟨C1, hI1, hdrop C1 _ _ _ w5 hw5⟩
    · refine ⟨wb, _, 0, rec', rfl, by rw [hst]; simp, hw4, ?_⟩
      rw [hpe]
      simp (disch := omega) only [push_cast, Nat.reduceEqDiff, e2, e5]
      repeat' (first | ((first | refine guardX_t rfl (fun h => ?_) (fun h => ?_) | refine guardX_f rfl (fun h => ?_) (fun h => ?_) | refine condX_d (fun h => ?_) (fun h => ?_) | (refine guardX_bt rfl (fun h => ?_) (fun h => ?_) <;> (try subst h)) | (refine guardX_bf rfl (fun h => ?_) (fun h => ?_) <;> (try subst h)) | (refine condX_b (fun h => ?_) (fun h => ?_) <;> (try subst h)) | refine ldOne Shp.eq (by (first | exact mem0 | exact mem1 | exact mem2 | exact mem3 | exact mem4 | exact mem5)) rfl ?_ | refine loadX_agg Shp.eq (by (first | exact mem0 | exact mem1 | exact mem2 | exact mem3 | exact mem4 | exact mem5)) rfl rfl ?_ | refine newI (fun b hb hn => ?_) | refine storeX 0 rfl Siz.eq rfl rfl (by simp [Value.oneCell']) (by simp) ?_ | refine storeX 1 rfl Siz.eq rfl rfl (by simp [Value.oneCell']) (by simp) ?_ | refine storeX 2 rfl Siz.eq rfl rfl (by simp [Value.oneCell']) (by simp) ?_ | refine storeX 3 rfl Siz.eq rfl rfl (by simp [Value.oneCell']) (by simp) ?_ | refine storeX 4 rfl Siz.eq rfl rfl (by simp [Value.oneCell']) (by simp) ?_ | refine storeX 5 rfl Siz.eq rfl rfl (by simp [Value.oneCell']) (by simp) ?_ | refine storeX 6 rfl Siz.eq rfl rfl (by simp [Value.oneCell']) (by simp) ?_) <;> simp (disch := omega) only [push_cast, Nat.reduceEqDiff, e2, e5]))
      refine ⟨d, 1, rfl, rfl, ?_⟩
      simp (disch := omega) only [push_cast, Nat.reduceEqDiff, e2, e5]
      exact fun w5 hw5 => .inr ⟨k, C1, hJ1, hdrop C1 _ _ _ w5 hw5⟩
end Go.Proofs.YtgbafmjgfbgeoaaDoor
