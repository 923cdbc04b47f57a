/- YtgbafmjgfbgeoaaDoor: walks, part 69: all fields of a tree in their order, wherever the tree lies. -/
import Derived.Test.YtgbafmjgfbgeoaaDoorW61
namespace Go.Proofs.YtgbafmjgfbgeoaaDoor
open Go Go.K
set_option maxRecDepth 100000
set_option linter.unusedVariables false
set_option linter.unusedSimpArgs false
set_option maxHeartbeats 4000000
theorem ldAt {P : Program} {wb : World} {L : Own} {t : TypeId} {b off n : Nat} {vs : List Value} {K : Value → Prop} (ht : shapeOf P t = some (true, n)) (ha : ∀ w, Sy wb L w → At w b off vs) (hn : vs.length = n) (h : K (.agg vs.toArray)) :
    LoadX P t (.pointer (some ⟨b, off, none⟩)) wb L (tag K) :=
  ⟨_, fun w hw => loadAt_agg (by rw [ht, hn]) (ha w hw), h⟩
/-- What the loop's body (or whoever is asked) does with each field. I: what holds ahead of the k-th; J: what holds when it said no at the k-th. -/
structure YieldX (wb : World) (G : World → Prop) (M0 : Own) (ns : List FNode) (I J : Nat → Own → Prop) (yv : Value) : Prop where
  hen : ∀ g first cap, yv = .func (.func g) first cap → entersB Tryd.prog g = true
  apart : ∀ k C, I k C → ∀ p ∈ C, wb.heap.size ≤ p.1
  call : ∀ k n, ns[k]? = some n → ∀ (C M : Own) (bw cap : Nat) (cs : List Value) (fa aa : Option Addr) (fc ac : Nat), I k C → wb.heap.size ≤ bw → n.path.length ≤ cap → cap ≤ maxLen → cs.length = cap → cs.take n.path.length = ints n.path →
    RdX G fa n.f.sub → n.f.sub.length ≤ fc → fc ≤ 9223372036854775807 → n.f.nm.length ≤ 9223372036854775807 → RdX G aa n.ah → n.ah.length ≤ ac → ac ≤ 9223372036854775807 → n.path.length ≤ 65 → (∀ p ∈ M, wb.heap.size ≤ p.1) → (∀ p ∈ M0, p ∈ M) →
    ∀ w, Sy wb (C ++ (bw, .cells cs.toArray 3 (0, 0)) :: M) w → CallsV Tryd.prog yv #[placeV (some ⟨bw, 0, none⟩) n.path.length cap aa n.ah.length ac n.f fa fc n.ind] w (fun e w' =>
      (e = .returned (.bool true) ∧ ∃ L', (∃ C', I (k + 1) C' ∧ L' = C' ++ (bw, .cells cs.toArray 3 (0, 0)) :: M) ∧ Sy wb L' w') ∨ (e = .returned (.bool false) ∧ ∃ L', (∃ C', J k C' ∧ L' = C' ++ M) ∧ Sy wb L' w'))
def AllX (wb : World) (G : World → Prop) (M0 : Own) (ns : List FNode) (I J : Nat → Own → Prop) (yv : Value) (by_ bm bd most : Nat) (d : Nat) : Prop := ∀ (w : World) (C M : Own) (k : Nat) (path : List Nat) (pv : Value) (l : List Fld) (a : Option Addr) (c : Nat) (ind : Bool),
    Sy wb (C ++ M) w → I k C → (∀ p ∈ M, wb.heap.size ≤ p.1) → (∀ p ∈ M0, p ∈ M) → (by_, .cells #[yv] 96 (0, 0)) ∈ M → (bm, .cells #[i64 most] 3 (0, 0)) ∈ M →
    (bd, .cells #[.func (.func 63) #[] #[.pointer (some ⟨by_, 0, none⟩), .pointer (some ⟨bm, 0, none⟩), .pointer (some ⟨bd, 0, none⟩)]] 97 (0, 0)) ∈ M →
    RowIn M 3 pv path.length (ints path) → path.length + d + 1 = most → RdX G a l → l.length ≤ c → c ≤ 9223372036854775807 → (∀ j x, (nd (d + 1) path ind l)[j]? = some x → ns[k + j]? = some x) →
    Calls Tryd.prog 63 #[pv, .slice a l.length c, .bool ind, .pointer (some ⟨by_, 0, none⟩), .pointer (some ⟨bm, 0, none⟩), .pointer (some ⟨bd, 0, none⟩)] w (fun e w' =>
      (e = .returned (.bool true) ∧ ∃ L', (∃ C', I (k + (nd (d + 1) path ind l).length) C' ∧ L' = C' ++ M) ∧ Sy wb L' w') ∨ (e = .returned (.bool false) ∧ ∃ L', (∃ j C', J j C' ∧ L' = C' ++ M) ∧ Sy wb L' w'))
theorem allx_step (wb : World) (G : World → Prop) (M0 : Own) (ns : List FNode) (I J : Nat → Own → Prop) (hG : ∀ k C M w, I k C → (∀ p ∈ M, wb.heap.size ≤ p.1) → (∀ p ∈ M0, p ∈ M) → Sy wb (C ++ M) w → G w) (yv : Value) (hy : YieldX wb G M0 ns I J yv) (by_ bm bd most : Nat) (hmost : most ≤ 65) (d : Nat)
    (ih : ∀ d', d = d' + 1 → AllX wb G M0 ns I J yv by_ bm bd most d') : AllX wb G M0 ns I J yv by_ bm bd most d := by
  intro w C M k path pv l a c ind hw hI hM hM0 hmy hmm hmd hpv hd hr hc hc2 hns
  refine enterB (args := [pv, .slice a l.length c, .bool ind, .pointer (some ⟨by_, 0, none⟩), .pointer (some ⟨bm, 0, none⟩), .pointer (some ⟨bd, 0, none⟩)]) Tryd.func63 rfl Tryd.ntmps63 (congrArg Array.toList Tryd.results63) (by kernel_rfl) (by simp) hw ?_
  simp (disch := omega) only [push_cast, Nat.reduceEqDiff]
  repeat' (first | ((first | refine guardX_t rfl (fun h => ?_) (fun h => ?_) | refine guardX_f rfl (fun h => ?_) (fun h => ?_) | refine condX_d (fun h => ?_) (fun h => ?_) | (refine guardX_bt rfl (fun h => ?_) (fun h => ?_) <;> (try subst h)) | (refine guardX_bf rfl (fun h => ?_) (fun h => ?_) <;> (try subst h)) | (refine condX_b (fun h => ?_) (fun h => ?_) <;> (try subst h)) | refine ldOne Shp.eq (by (first | exact mem0 | exact mem1 | exact mem2 | exact mem3 | exact mem4 | exact mem5)) rfl ?_ | refine loadX_agg Shp.eq (by (first | exact mem0 | exact mem1 | exact mem2 | exact mem3 | exact mem4 | exact mem5)) rfl rfl ?_ | refine newI (fun b hb hn => ?_) | refine storeX 0 rfl Siz.eq rfl rfl (by simp [Value.oneCell']) (by simp) ?_ | refine storeX 1 rfl Siz.eq rfl rfl (by simp [Value.oneCell']) (by simp) ?_ | refine storeX 2 rfl Siz.eq rfl rfl (by simp [Value.oneCell']) (by simp) ?_ | refine storeX 3 rfl Siz.eq rfl rfl (by simp [Value.oneCell']) (by simp) ?_ | refine storeX 4 rfl Siz.eq rfl rfl (by simp [Value.oneCell']) (by simp) ?_ | refine storeX 5 rfl Siz.eq rfl rfl (by simp [Value.oneCell']) (by simp) ?_ | refine storeX 6 rfl Siz.eq rfl rfl (by simp [Value.oneCell']) (by simp) ?_) <;> simp (disch := omega) only [push_cast, Nat.reduceEqDiff]) | (first | rw [V_cond] | rw [V_block]) <;> (try simp (disch := omega) only [push_cast, Nat.reduceEqDiff]))
  refine loopW (G := Nat) (AllI wb M I k d path pv ind l a c (.pointer (some ⟨by_, 0, none⟩)) (.pointer (some ⟨bm, 0, none⟩)) (.pointer (some ⟨bd, 0, none⟩))) (fun i => l.length - i) 0 (C ++ M) (fun w hw => hw) (by kernel_rfl) ⟨rfl, rfl, ⟨C, rfl, by rw [ndAt_zero]; exact hI⟩, by omega, rfl, rfl, rfl, rfl, rfl, rfl, rfl, rfl, rfl⟩ ?_
  clear hI hw
  rintro i wb e ds L ⟨rfl, rfl, ⟨C, rfl, hI⟩, hil, h0, h1, h2, h3, h4, h5, h13, h14, h15⟩
  have hC := hy.apart _ _ hI
  simp (disch := omega) only [push_cast, Nat.reduceEqDiff, h0, h1, h2, h3, h4, h5, h13, h14, h15]
  rw [V_cond]
  simp (disch := omega) only [push_cast, Nat.reduceEqDiff, h0, h1, h2, h3, h4, h5, h13, h14, h15]
  refine condX_d (fun hlt => ?_) (fun hge => ?_)
  · obtain ⟨f, hf⟩ : ∃ f, l[i]? = some f := ⟨_, List.getElem?_eq_getElem (by omega)⟩
    obtain ⟨f0, l0, rfl⟩ : ∃ f l', l = f :: l' := List.exists_cons_of_ne_nil (by rintro rfl; simp at hf)
    obtain ⟨b, off, rfl⟩ := hr.some_of
    obtain ⟨fa, fc, x2, x3, x4, x5, x6⟩ := hr.get i hf
    simp (disch := omega) only [push_cast, Nat.reduceEqDiff, h0, h1, h2, h3, h4, h5, h13, h14, h15]
    rw [V_block]
    simp (disch := omega) only [push_cast, Nat.reduceEqDiff, h0, h1, h2, h3, h4, h5, h13, h14, h15]
    refine ldAt Shp.eq (fun w' hw' => x2 w' (hG _ C M w' hI hM hM0 hw')) rfl ?_
    simp (disch := omega) only [push_cast, Nat.reduceEqDiff, h0, h1, h2, h3, h4, h5, h13, h14, h15, Fld.cells]
    refine newI (fun bf hbf hnf => ?_)
    simp (disch := omega) only [push_cast, Nat.reduceEqDiff, h0, h1, h2, h3, h4, h5, h13, h14, h15]
    repeat' (first | ((first | refine guardX_t rfl (fun h => ?_) (fun h => ?_) | refine guardX_f rfl (fun h => ?_) (fun h => ?_) | refine condX_d (fun h => ?_) (fun h => ?_) | (refine guardX_bt rfl (fun h => ?_) (fun h => ?_) <;> (try subst h)) | (refine guardX_bf rfl (fun h => ?_) (fun h => ?_) <;> (try subst h)) | (refine condX_b (fun h => ?_) (fun h => ?_) <;> (try subst h)) | refine ldOne Shp.eq (by (first | exact mem0 | exact mem1 | exact mem2 | exact mem3 | exact mem4 | exact mem5)) rfl ?_ | refine loadX_agg Shp.eq (by (first | exact mem0 | exact mem1 | exact mem2 | exact mem3 | exact mem4 | exact mem5)) rfl rfl ?_ | refine newI (fun b hb hn => ?_) | refine storeX 0 rfl Siz.eq rfl rfl (by simp [Value.oneCell']) (by simp) ?_ | refine storeX 1 rfl Siz.eq rfl rfl (by simp [Value.oneCell']) (by simp) ?_ | refine storeX 2 rfl Siz.eq rfl rfl (by simp [Value.oneCell']) (by simp) ?_ | refine storeX 3 rfl Siz.eq rfl rfl (by simp [Value.oneCell']) (by simp) ?_ | refine storeX 4 rfl Siz.eq rfl rfl (by simp [Value.oneCell']) (by simp) ?_ | refine storeX 5 rfl Siz.eq rfl rfl (by simp [Value.oneCell']) (by simp) ?_ | refine storeX 6 rfl Siz.eq rfl rfl (by simp [Value.oneCell']) (by simp) ?_) <;> simp (disch := omega) only [push_cast, Nat.reduceEqDiff, h0, h1, h2, h3, h4, h5, h13, h14, h15]))
    refine callV en_42 (callX_own (fun w' hw' => clone_walk wb w' _ hw' pv path.length (ints path) (hpv.mono fun p hp => .tail _ (List.mem_append_right _ hp)) (by omega) (ints_one path)) (fun v1 L1 hro => ?_))
    simp (disch := omega) only [push_cast, Nat.reduceEqDiff, h0, h1, h2, h3, h4, h5, h13, h14, h15]
    refine bs_26_1 (newI fun b1 hb1 hn1 => ?_)
    simp (disch := omega) only [push_cast, Nat.reduceEqDiff, h0, h1, h2, h3, h4, h5, h13, h14, h15]
    obtain ⟨L2, hro2, hs2⟩ := hro.over (b1, Obj.cells #[i64 i] 3 (0, 0))
    refine valX_weak hs2 (appendI un_26 infoInt rfl hro2 (news := [i64 i]) (m := 1) (by simp) (CanRead.of_own (n := 1) (hro2.mem (.head _)) rfl rfl) (by simp [Value.oneCell']) (by simp only [maxLen]; omega) (by omega) (fun v2 L3 hro3 _ => ?_))
    obtain ⟨hxl, ⟨_, h0', _⟩ | ⟨bw, cap, cs, rfl, rfl, hbw, hcap, hcm, hcl, hct⟩⟩ := hro3
    · omega
    simp (disch := omega) only [push_cast, Nat.reduceEqDiff, h0, h1, h2, h3, h4, h5, h13, h14, h15]
    refine drawTT 8 (by kernel_rfl) (by kernel_rfl) mixed (by kernel_rfl) rfl rfl ?_
    simp (disch := omega) only [push_cast, Nat.reduceEqDiff, h0, h1, h2, h3, h4, h5, h13, h14, h15]
    refine ldOne sh_96 (.tail _ (.tail _ (.tail _ (List.mem_append_right _ hmy)))) rfl ?_
    simp (disch := omega) only [push_cast, Nat.reduceEqDiff, h0, h1, h2, h3, h4, h5, h13, h14, h15]
    refine loadX_agg sh_38 (.tail _ (.tail _ (.head _))) rfl rfl ?_
    simp (disch := omega) only [push_cast, Nat.reduceEqDiff, h0, h1, h2, h3, h4, h5, h13, h14, h15]
    have hlen : ((f0 :: l0).take i).length = i := by rw [List.length_take]; omega
    have hpl : (path ++ [i]).length = path.length + 1 := by simp
    have hints : ints (path ++ [i]) = ints path ++ [i64 i] := by simp [ints]
    have hM1 : ∀ p ∈ ((b1, Obj.cells #[i64 i] 3 (0, 0)) :: (bf, Obj.cells #[str f.nm, .bool f.nl, i64 f.k, i64 f.wd, i64 f.id, i64 f.ix, .slice fa f.sub.length fc] 38 (0, 0)) :: M), wb.heap.size ≤ p.1 := by
      intro p hp
      simp only [List.mem_cons] at hp
      rcases hp with rfl | rfl | hp
      · exact hb1
      · exact hbf
      · exact hM p hp
    have hnew : ∀ p ∈ [(bw, Obj.cells cs.toArray 3 (0, 0)), (b1, Obj.cells #[i64 i] 3 (0, 0)), (bf, Obj.cells #[str f.nm, .bool f.nl, i64 f.k, i64 f.wd, i64 f.id, i64 f.ix, .slice fa f.sub.length fc] 38 (0, 0))], wb.heap.size ≤ p.1 := by
      intro p hp
      simp only [List.mem_cons, List.mem_nil_iff, or_false] at hp
      rcases hp with rfl | rfl | rfl <;> assumption
    have hM2 : ∀ p ∈ ((bw, Obj.cells cs.toArray 3 (0, 0)) :: (b1, Obj.cells #[i64 i] 3 (0, 0)) :: (bf, Obj.cells #[str f.nm, .bool f.nl, i64 f.k, i64 f.wd, i64 f.id, i64 f.ix, .slice fa f.sub.length fc] 38 (0, 0)) :: M), wb.heap.size ≤ p.1 := by
      intro p hp
      rcases List.mem_cons.1 hp with rfl | hp
      · exact hbw
      · exact hM1 p hp
    refine callV_two (fun L' => ∃ C', I (k + (ndAt d path ind (f0 :: l0) i).length + 1) C' ∧ L' = C' ++ (bw, .cells cs.toArray 3 (0, 0)) :: (b1, Obj.cells #[i64 i] 3 (0, 0)) :: (bf, Obj.cells #[str f.nm, .bool f.nl, i64 f.k, i64 f.wd, i64 f.id, i64 f.ix, .slice fa f.sub.length fc] 38 (0, 0)) :: M)
      (fun L' => ∃ C', J (k + (ndAt d path ind (f0 :: l0) i).length) C' ∧ L' = C' ++ (b1, Obj.cells #[i64 i] 3 (0, 0)) :: (bf, Obj.cells #[str f.nm, .bool f.nl, i64 f.k, i64 f.wd, i64 f.id, i64 f.ix, .slice fa f.sub.length fc] 38 (0, 0)) :: M) rfl (by simp (disch := omega) only [push_cast, Nat.reduceEqDiff]) hy.hen (fun w' hw' => ?_) ?_ ?_
    · have hcall := hy.call _ ⟨path ++ [i], (f0 :: l0).take i, f, ind⟩ (hns _ _ (nd_here d path ind _ i f hf)) C _ bw cap cs fa (some ⟨b, off, none⟩) fc c hI hbw (by rw [hpl]; exact hcap) hcm (by omega) (by rw [hpl, hints]; simpa using hct) x6 x3 x5 x4 (hr.take i) (by show ((f0 :: l0).take i).length ≤ c; omega) hc2 (by rw [hpl]; omega) hM1 (fun p hp => .tail _ (.tail _ (hM0 p hp))) w' (hw'.perm (List.perm_append_comm_assoc [(bw, Obj.cells cs.toArray 3 (0, 0)), (b1, Obj.cells #[i64 i] 3 (0, 0)), (bf, Obj.cells #[str f.nm, .bool f.nl, i64 f.k, i64 f.wd, i64 f.id, i64 f.ix, .slice fa f.sub.length fc] 38 (0, 0))] C M))
      simp only [hpl, hlen] at hcall
      exact hcall
    · rintro L' ⟨C1, hI1, rfl⟩
      simp (disch := omega) only [push_cast, Nat.reduceEqDiff, h0, h1, h2, h3, h4, h5, h13, h14, h15]
      rw [V_cond]
      simp (disch := omega) only [push_cast, Nat.reduceEqDiff, h0, h1, h2, h3, h4, h5, h13, h14, h15]
      refine condX_f ?_
      simp (disch := omega) only [push_cast, Nat.reduceEqDiff, h0, h1, h2, h3, h4, h5, h13, h14, h15]
      refine ldOne sh_3 (List.mem_append_right _ (.tail _ (.tail _ (.tail _ hmm)))) rfl ?_
      simp (disch := omega) only [push_cast, Nat.reduceEqDiff, h0, h1, h2, h3, h4, h5, h13, h14, h15]
      rcases d with _ | d'
      · refine guardX_t rfl (fun h => absurd h (by omega)) (fun _ => ?_)
        simp (disch := omega) only [push_cast, Nat.reduceEqDiff, h0, h1, h2, h3, h4, h5, h13, h14, h15]
        repeat' (first | ((first | refine guardX_t rfl (fun h => ?_) (fun h => ?_) | refine guardX_f rfl (fun h => ?_) (fun h => ?_) | refine condX_d (fun h => ?_) (fun h => ?_) | (refine guardX_bt rfl (fun h => ?_) (fun h => ?_) <;> (try subst h)) | (refine guardX_bf rfl (fun h => ?_) (fun h => ?_) <;> (try subst h)) | (refine condX_b (fun h => ?_) (fun h => ?_) <;> (try subst h)) | refine ldOne Shp.eq (by (first | exact mem0 | exact mem1 | exact mem2 | exact mem3 | exact mem4 | exact mem5)) rfl ?_ | refine loadX_agg Shp.eq (by (first | exact mem0 | exact mem1 | exact mem2 | exact mem3 | exact mem4 | exact mem5)) rfl rfl ?_ | refine newI (fun b hb hn => ?_) | refine storeX 0 rfl Siz.eq rfl rfl (by simp [Value.oneCell']) (by simp) ?_ | refine storeX 1 rfl Siz.eq rfl rfl (by simp [Value.oneCell']) (by simp) ?_ | refine storeX 2 rfl Siz.eq rfl rfl (by simp [Value.oneCell']) (by simp) ?_ | refine storeX 3 rfl Siz.eq rfl rfl (by simp [Value.oneCell']) (by simp) ?_ | refine storeX 4 rfl Siz.eq rfl rfl (by simp [Value.oneCell']) (by simp) ?_ | refine storeX 5 rfl Siz.eq rfl rfl (by simp [Value.oneCell']) (by simp) ?_ | refine storeX 6 rfl Siz.eq rfl rfl (by simp [Value.oneCell']) (by simp) ?_) <;> simp (disch := omega) only [push_cast, Nat.reduceEqDiff, h0, h1, h2, h3, h4, h5, h13, h14, h15]))
        rw [V_cond]
        simp (disch := omega) only [push_cast, Nat.reduceEqDiff, h0, h1, h2, h3, h4, h5, h13, h14, h15]
        have hI2 := hI1
        revert hI2
        generalize C1 = C2
        intro hI2
        exact ⟨i + 1, C2 ++ M, fun w hw => hw.mid C2 [(bw, Obj.cells cs.toArray 3 (0, 0)), (b1, Obj.cells #[i64 i] 3 (0, 0)), (bf, Obj.cells #[str f.nm, .bool f.nl, i64 f.k, i64 f.wd, i64 f.id, i64 f.ix, .slice fa f.sub.length fc] 38 (0, 0))] hnew, ⟨rfl, rfl, ⟨C2, rfl, by rw [ndAt_succ 0 path ind (f0 :: l0) i f hf, List.length_append, List.length_cons, ← Nat.add_assoc, ← Nat.add_assoc, Nat.add_right_comm] ; exact hI2⟩, by omega, h0, h1, h2, h3, h4, h5, h13, h14, by simp only [upd]; rfl⟩, by
          show (f0 :: l0).length - (i + 1) < (f0 :: l0).length - i
          omega⟩
      · refine guardX_t rfl (fun _ => ?_) (fun h => absurd (by omega) h)
        simp (disch := omega) only [push_cast, Nat.reduceEqDiff, h0, h1, h2, h3, h4, h5, h13, h14, h15]
        refine ldOne sh_97 (List.mem_append_right _ (.tail _ (.tail _ (.tail _ hmd)))) rfl ?_
        simp (disch := omega) only [push_cast, Nat.reduceEqDiff, h0, h1, h2, h3, h4, h5, h13, h14, h15]
        refine ldOne sh_22 (List.mem_append_right _ (.tail _ (.tail _ (.head _)))) rfl ?_
        simp (disch := omega) only [push_cast, Nat.reduceEqDiff, h0, h1, h2, h3, h4, h5, h13, h14, h15]
        rcases ind with _ | _
        · simp (disch := omega) only [push_cast, Nat.reduceEqDiff, h0, h1, h2, h3, h4, h5, h13, h14, h15]
          refine ldOne sh_3 (List.mem_append_right _ (.tail _ (.tail _ (.head _)))) rfl ?_
          simp (disch := omega) only [push_cast, Nat.reduceEqDiff, h0, h1, h2, h3, h4, h5, h13, h14, h15]
          refine callVc en_63 (callX_two (fun L' => ∃ C', I (k + (ndAt (d' + 1) path false (f0 :: l0) i).length + 1 + (nd (d' + 1) (path ++ [i]) (false || f.k == 19) f.sub).length) C' ∧ L' = C' ++ (bw, Obj.cells cs.toArray 3 (0, 0)) :: (b1, Obj.cells #[i64 i] 3 (0, 0)) :: (bf, Obj.cells #[str f.nm, .bool f.nl, i64 f.k, i64 f.wd, i64 f.id, i64 f.ix, .slice fa f.sub.length fc] 38 (0, 0)) :: M) (fun L' => ∃ j C', J j C' ∧ L' = C' ++ (bw, Obj.cells cs.toArray 3 (0, 0)) :: (b1, Obj.cells #[i64 i] 3 (0, 0)) :: (bf, Obj.cells #[str f.nm, .bool f.nl, i64 f.k, i64 f.wd, i64 f.id, i64 f.ix, .slice fa f.sub.length fc] 38 (0, 0)) :: M)
            (fun w' hw' => ih d' rfl w' C1 ((bw, Obj.cells cs.toArray 3 (0, 0)) :: (b1, Obj.cells #[i64 i] 3 (0, 0)) :: (bf, Obj.cells #[str f.nm, .bool f.nl, i64 f.k, i64 f.wd, i64 f.id, i64 f.ix, .slice fa f.sub.length fc] 38 (0, 0)) :: M) (k + (ndAt (d' + 1) path false (f0 :: l0) i).length + 1) (path ++ [i]) (.slice (some ⟨bw, 0, none⟩) (path.length + 1) cap) f.sub fa fc (false || f.k == 19) hw' hI1 hM2 (fun p hp => .tail _ (.tail _ (.tail _ (hM0 p hp)))) (.tail _ (.tail _ (.tail _ hmy))) (.tail _ (.tail _ (.tail _ hmm))) (.tail _ (.tail _ (.tail _ hmd)))
              ⟨by simp [ints], .inr ⟨bw, cap, cs, by rw [hpl], .head _, by rw [hpl]; exact hcap, hcm, by omega, by rw [hpl, hints]; simpa using hct⟩⟩ (by rw [hpl]; omega) x6 x3 x5 (fun j x hx => by
                have := hns _ x (nd_within (d' + 1) path false (f0 :: l0) i f hf j x hx)
                rw [← this]; congr 1; omega)) ?_ ?_)
          · rintro L' ⟨C2, hI2, rfl⟩
            simp (disch := omega) only [push_cast, Nat.reduceEqDiff, h0, h1, h2, h3, h4, h5, h13, h14, h15]
            rw [V_cond]
            simp (disch := omega) only [push_cast, Nat.reduceEqDiff, h0, h1, h2, h3, h4, h5, h13, h14, h15]
            refine condX_f ?_
            simp (disch := omega) only [push_cast, Nat.reduceEqDiff, h0, h1, h2, h3, h4, h5, h13, h14, h15]
            exact ⟨i + 1, C2 ++ M, fun w hw => hw.mid C2 [(bw, Obj.cells cs.toArray 3 (0, 0)), (b1, Obj.cells #[i64 i] 3 (0, 0)), (bf, Obj.cells #[str f.nm, .bool f.nl, i64 f.k, i64 f.wd, i64 f.id, i64 f.ix, .slice fa f.sub.length fc] 38 (0, 0))] hnew, ⟨rfl, rfl, ⟨C2, rfl, by rw [ndAt_succ (d' + 1) path false (f0 :: l0) i f hf, List.length_append, List.length_cons, ← Nat.add_assoc, ← Nat.add_assoc, Nat.add_right_comm] ; exact hI2⟩, by omega, h0, h1, h2, h3, h4, h5, h13, h14, by simp only [upd]; rfl⟩, by
          show (f0 :: l0).length - (i + 1) < (f0 :: l0).length - i
          omega⟩
          · rintro L' ⟨j, C2, hJ2, rfl⟩
            simp (disch := omega) only [push_cast, Nat.reduceEqDiff, h0, h1, h2, h3, h4, h5, h13, h14, h15]
            rw [V_cond]
            simp (disch := omega) only [push_cast, Nat.reduceEqDiff, h0, h1, h2, h3, h4, h5, h13, h14, h15]
            refine condX_t ?_
            simp (disch := omega) only [push_cast, Nat.reduceEqDiff, h0, h1, h2, h3, h4, h5, h13, h14, h15]
            exact fun w' hw' => .inr ⟨_, ⟨j, C2, hJ2, rfl⟩, hw'.mid C2 [(bw, Obj.cells cs.toArray 3 (0, 0)), (b1, Obj.cells #[i64 i] 3 (0, 0)), (bf, Obj.cells #[str f.nm, .bool f.nl, i64 f.k, i64 f.wd, i64 f.id, i64 f.ix, .slice fa f.sub.length fc] 38 (0, 0))] hnew⟩
        · simp (disch := omega) only [push_cast, Nat.reduceEqDiff, h0, h1, h2, h3, h4, h5, h13, h14, h15]
          refine callVc en_63 (callX_two (fun L' => ∃ C', I (k + (ndAt (d' + 1) path true (f0 :: l0) i).length + 1 + (nd (d' + 1) (path ++ [i]) (true || f.k == 19) f.sub).length) C' ∧ L' = C' ++ (bw, Obj.cells cs.toArray 3 (0, 0)) :: (b1, Obj.cells #[i64 i] 3 (0, 0)) :: (bf, Obj.cells #[str f.nm, .bool f.nl, i64 f.k, i64 f.wd, i64 f.id, i64 f.ix, .slice fa f.sub.length fc] 38 (0, 0)) :: M) (fun L' => ∃ j C', J j C' ∧ L' = C' ++ (bw, Obj.cells cs.toArray 3 (0, 0)) :: (b1, Obj.cells #[i64 i] 3 (0, 0)) :: (bf, Obj.cells #[str f.nm, .bool f.nl, i64 f.k, i64 f.wd, i64 f.id, i64 f.ix, .slice fa f.sub.length fc] 38 (0, 0)) :: M)
            (fun w' hw' => ih d' rfl w' C1 ((bw, Obj.cells cs.toArray 3 (0, 0)) :: (b1, Obj.cells #[i64 i] 3 (0, 0)) :: (bf, Obj.cells #[str f.nm, .bool f.nl, i64 f.k, i64 f.wd, i64 f.id, i64 f.ix, .slice fa f.sub.length fc] 38 (0, 0)) :: M) (k + (ndAt (d' + 1) path true (f0 :: l0) i).length + 1) (path ++ [i]) (.slice (some ⟨bw, 0, none⟩) (path.length + 1) cap) f.sub fa fc (true || f.k == 19) hw' hI1 hM2 (fun p hp => .tail _ (.tail _ (.tail _ (hM0 p hp)))) (.tail _ (.tail _ (.tail _ hmy))) (.tail _ (.tail _ (.tail _ hmm))) (.tail _ (.tail _ (.tail _ hmd)))
              ⟨by simp [ints], .inr ⟨bw, cap, cs, by rw [hpl], .head _, by rw [hpl]; exact hcap, hcm, by omega, by rw [hpl, hints]; simpa using hct⟩⟩ (by rw [hpl]; omega) x6 x3 x5 (fun j x hx => by
                have := hns _ x (nd_within (d' + 1) path true (f0 :: l0) i f hf j x hx)
                rw [← this]; congr 1; omega)) ?_ ?_)
          · rintro L' ⟨C2, hI2, rfl⟩
            simp (disch := omega) only [push_cast, Nat.reduceEqDiff, h0, h1, h2, h3, h4, h5, h13, h14, h15]
            rw [V_cond]
            simp (disch := omega) only [push_cast, Nat.reduceEqDiff, h0, h1, h2, h3, h4, h5, h13, h14, h15]
            refine condX_f ?_
            simp (disch := omega) only [push_cast, Nat.reduceEqDiff, h0, h1, h2, h3, h4, h5, h13, h14, h15]
            exact ⟨i + 1, C2 ++ M, fun w hw => hw.mid C2 [(bw, Obj.cells cs.toArray 3 (0, 0)), (b1, Obj.cells #[i64 i] 3 (0, 0)), (bf, Obj.cells #[str f.nm, .bool f.nl, i64 f.k, i64 f.wd, i64 f.id, i64 f.ix, .slice fa f.sub.length fc] 38 (0, 0))] hnew, ⟨rfl, rfl, ⟨C2, rfl, by rw [ndAt_succ (d' + 1) path true (f0 :: l0) i f hf, List.length_append, List.length_cons, ← Nat.add_assoc, ← Nat.add_assoc, Nat.add_right_comm] ; exact hI2⟩, by omega, h0, h1, h2, h3, h4, h5, h13, h14, by simp only [upd]; rfl⟩, by
          show (f0 :: l0).length - (i + 1) < (f0 :: l0).length - i
          omega⟩
          · rintro L' ⟨j, C2, hJ2, rfl⟩
            simp (disch := omega) only [push_cast, Nat.reduceEqDiff, h0, h1, h2, h3, h4, h5, h13, h14, h15]
            rw [V_cond]
            simp (disch := omega) only [push_cast, Nat.reduceEqDiff, h0, h1, h2, h3, h4, h5, h13, h14, h15]
            refine condX_t ?_
            simp (disch := omega) only [push_cast, Nat.reduceEqDiff, h0, h1, h2, h3, h4, h5, h13, h14, h15]
            exact fun w' hw' => .inr ⟨_, ⟨j, C2, hJ2, rfl⟩, hw'.mid C2 [(bw, Obj.cells cs.toArray 3 (0, 0)), (b1, Obj.cells #[i64 i] 3 (0, 0)), (bf, Obj.cells #[str f.nm, .bool f.nl, i64 f.k, i64 f.wd, i64 f.id, i64 f.ix, .slice fa f.sub.length fc] 38 (0, 0))] hnew⟩
    · rintro L' ⟨C1, hJ1, rfl⟩
      simp (disch := omega) only [push_cast, Nat.reduceEqDiff, h0, h1, h2, h3, h4, h5, h13, h14, h15]
      rw [V_cond]
      simp (disch := omega) only [push_cast, Nat.reduceEqDiff, h0, h1, h2, h3, h4, h5, h13, h14, h15]
      refine condX_t ?_
      simp (disch := omega) only [push_cast, Nat.reduceEqDiff, h0, h1, h2, h3, h4, h5, h13, h14, h15]
      exact fun w' hw' => .inr ⟨_, ⟨_, C1, hJ1, rfl⟩, hw'.mid C1 [(b1, Obj.cells #[i64 i] 3 (0, 0)), (bf, Obj.cells #[str f.nm, .bool f.nl, i64 f.k, i64 f.wd, i64 f.id, i64 f.ix, .slice fa f.sub.length fc] 38 (0, 0))] (fun p hp => hnew p (.tail _ hp))⟩
  · obtain rfl : i = l.length := by omega
    simp (disch := omega) only [push_cast, Nat.reduceEqDiff, h0, h1, h2, h3, h4, h5, h13, h14, h15]
    exact fun w' hw' => .inl ⟨_, ⟨C, by rw [← ndAt_all d path ind l l.length (Nat.le_refl _)]; exact hI, rfl⟩, hw'⟩
theorem allx_walk (wb : World) (G : World → Prop) (M0 : Own) (ns : List FNode) (I J : Nat → Own → Prop) (hG : ∀ k C M w, I k C → (∀ p ∈ M, wb.heap.size ≤ p.1) → (∀ p ∈ M0, p ∈ M) → Sy wb (C ++ M) w → G w) (yv : Value) (hy : YieldX wb G M0 ns I J yv) (by_ bm bd most : Nat) (hmost : most ≤ 65) : ∀ d, AllX wb G M0 ns I J yv by_ bm bd most d
  | 0 => allx_step wb G M0 ns I J hG yv hy by_ bm bd most hmost 0 (fun d' h => by cases h)
  | d + 1 => allx_step wb G M0 ns I J hG yv hy by_ bm bd most hmost (d + 1) (fun d' h => by cases h; exact allx_walk wb G M0 ns I J hG yv hy by_ bm bd most hmost d)
theorem all1x_walk (wb : World) (G : World → Prop) (M0 : Own) (ns : List FNode) (I J : Nat → Own → Prop) (hG : ∀ k C M w, I k C → (∀ p ∈ M, wb.heap.size ≤ p.1) → (∀ p ∈ M0, p ∈ M) → Sy wb (C ++ M) w → G w) (yv : Value) (hyc : yv.cells = #[yv]) (hy1 : yv.oneCell' = true) (hy : YieldX wb G M0 ns I J yv) (most : Nat) (hm0 : 0 < most) (hmost : most ≤ 65) (w : World) (C M : Own) (bm bl : Nat) (l : List Fld) (a : Option Addr) (c : Nat)
    (hw : Sy wb (C ++ M) w) (hI : I 0 C) (hM : ∀ p ∈ M, wb.heap.size ≤ p.1) (hM0 : ∀ p ∈ M0, p ∈ M) (hmm : (bm, .cells #[i64 most] 3 (0, 0)) ∈ M) (hml : (bl, .cells #[.slice a l.length c] 22 (0, 0)) ∈ M) (hr : RdX G a l) (hc : l.length ≤ c) (hc2 : c ≤ 9223372036854775807) (hns : ns = nd most [] false l) :
    Calls Tryd.prog 62 #[yv, .pointer (some ⟨bm, 0, none⟩), .pointer (some ⟨bl, 0, none⟩)] w (fun e w' => e = .returned (.tuple #[]) ∧ ((∃ C', I ns.length C' ∧ Sy wb (C' ++ M) w') ∨ (∃ j C', J j C' ∧ Sy wb (C' ++ M) w'))) := by
  refine enterB (args := [yv, .pointer (some ⟨bm, 0, none⟩), .pointer (some ⟨bl, 0, none⟩)]) Tryd.func62 rfl Tryd.ntmps62 (congrArg Array.toList Tryd.results62) (by kernel_rfl) (by simp) hw ?_
  simp (disch := omega) only [push_cast, Nat.reduceEqDiff]
  rw [hyc]
  refine newI (fun by_ hby hny => ?_)
  simp (disch := omega) only [push_cast, Nat.reduceEqDiff]
  refine newI (fun bd hbd hnd => ?_)
  simp (disch := omega) only [push_cast, Nat.reduceEqDiff]
  refine storeX 0 rfl (by exact Siz.eq) rfl rfl (by simp [Value.oneCell']) (by simp) ?_
  simp (disch := omega) only [push_cast, Nat.reduceEqDiff]
  refine ldOne (by exact Shp.eq) (.head _) rfl ?_
  simp (disch := omega) only [push_cast, Nat.reduceEqDiff]
  refine ldOne sh_22 (.tail _ (.tail _ (List.mem_append_right _ hml))) rfl ?_
  simp (disch := omega) only [push_cast, Nat.reduceEqDiff]
  obtain ⟨m, rfl⟩ : ∃ m, most = m + 1 := ⟨most - 1, by omega⟩
  have hnew : ∀ p ∈ [(bd, Obj.cells #[.func (.func 63) #[] #[.pointer (some ⟨by_, 0, none⟩), .pointer (some ⟨bm, 0, none⟩), .pointer (some ⟨bd, 0, none⟩)]] 97 (0, 0)), (by_, Obj.cells #[yv] 96 (0, 0))], wb.heap.size ≤ p.1 := by
    intro p hp
    simp only [List.mem_cons, List.mem_nil_iff, or_false] at hp
    rcases hp with rfl | rfl <;> assumption
  have hM2 : ∀ p ∈ ((bd, Obj.cells #[.func (.func 63) #[] #[.pointer (some ⟨by_, 0, none⟩), .pointer (some ⟨bm, 0, none⟩), .pointer (some ⟨bd, 0, none⟩)]] 97 (0, 0)) :: (by_, Obj.cells #[yv] 96 (0, 0)) :: M), wb.heap.size ≤ p.1 := by
    intro p hp
    simp only [List.mem_cons] at hp
    rcases hp with rfl | rfl | hp
    · exact hbd
    · exact hby
    · exact hM p hp
  refine callVc en_63 (callX_weak (L' := C ++ (bd, Obj.cells #[.func (.func 63) #[] #[.pointer (some ⟨by_, 0, none⟩), .pointer (some ⟨bm, 0, none⟩), .pointer (some ⟨bd, 0, none⟩)]] 97 (0, 0)) :: (by_, Obj.cells #[yv] 96 (0, 0)) :: M) (fun w' hw' => hw'.perm (List.perm_append_comm_assoc [(bd, Obj.cells #[.func (.func 63) #[] #[.pointer (some ⟨by_, 0, none⟩), .pointer (some ⟨bm, 0, none⟩), .pointer (some ⟨bd, 0, none⟩)]] 97 (0, 0)), (by_, Obj.cells #[yv] 96 (0, 0))] C M)) (callX_two (fun L' => ∃ C', I (0 + (nd (m + 1) [] false l).length) C' ∧ L' = C' ++ (bd, Obj.cells #[.func (.func 63) #[] #[.pointer (some ⟨by_, 0, none⟩), .pointer (some ⟨bm, 0, none⟩), .pointer (some ⟨bd, 0, none⟩)]] 97 (0, 0)) :: (by_, Obj.cells #[yv] 96 (0, 0)) :: M) (fun L' => ∃ j C', J j C' ∧ L' = C' ++ (bd, Obj.cells #[.func (.func 63) #[] #[.pointer (some ⟨by_, 0, none⟩), .pointer (some ⟨bm, 0, none⟩), .pointer (some ⟨bd, 0, none⟩)]] 97 (0, 0)) :: (by_, Obj.cells #[yv] 96 (0, 0)) :: M)
    (fun w' hw' => allx_walk wb G M0 ns I J hG yv hy by_ bm bd (m + 1) hmost m w' C ((bd, Obj.cells #[.func (.func 63) #[] #[.pointer (some ⟨by_, 0, none⟩), .pointer (some ⟨bm, 0, none⟩), .pointer (some ⟨bd, 0, none⟩)]] 97 (0, 0)) :: (by_, Obj.cells #[yv] 96 (0, 0)) :: M) 0 [] (.slice none 0 0) l a c false hw' hI hM2 (fun p hp => .tail _ (.tail _ (hM0 p hp))) (.tail _ (.head _)) (.tail _ (.tail _ hmm)) (.head _) ⟨rfl, .inl ⟨rfl, rfl⟩⟩ (by simp) hr hc hc2 (fun j x hx => by rw [hns, Nat.zero_add]; exact hx)) ?_ ?_))
  · rintro L' ⟨C2, hI2, rfl⟩
    simp (disch := omega) only [push_cast, Nat.reduceEqDiff]
    exact fun w' hw' => .inl ⟨C2, by rw [hns]; simpa using hI2, hw'.mid C2 [(bd, Obj.cells #[.func (.func 63) #[] #[.pointer (some ⟨by_, 0, none⟩), .pointer (some ⟨bm, 0, none⟩), .pointer (some ⟨bd, 0, none⟩)]] 97 (0, 0)), (by_, Obj.cells #[yv] 96 (0, 0))] hnew⟩
  · rintro L' ⟨j, C2, hJ2, rfl⟩
    simp (disch := omega) only [push_cast, Nat.reduceEqDiff]
    exact fun w' hw' => .inr ⟨j, C2, hJ2, hw'.mid C2 [(bd, Obj.cells #[.func (.func 63) #[] #[.pointer (some ⟨by_, 0, none⟩), .pointer (some ⟨bm, 0, none⟩), .pointer (some ⟨bd, 0, none⟩)]] 97 (0, 0)), (by_, Obj.cells #[yv] 96 (0, 0))] hnew⟩
end Go.Proofs.YtgbafmjgfbgeoaaDoor
