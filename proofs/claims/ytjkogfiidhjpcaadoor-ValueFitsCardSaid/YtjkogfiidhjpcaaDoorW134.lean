/- YtjkogfiidhjpcaaDoor: walks, part 133: a field's zero value: the reference's. -/
import Derived.Test.YtjkogfiidhjpcaaDoorW132
import Derived.Shelf.Strings.Repeat
namespace Go.Proofs.YtjkogfiidhjpcaaDoor
open Go Go.K
set_option maxRecDepth 100000
set_option linter.unusedVariables false
set_option linter.unusedSimpArgs false
set_option maxHeartbeats 4000000
theorem ZaR.off1 {w : World} {base : Own} {x : Rw} {its : List Rw} {b4 : Nat} {v : Vl} {E0 : Env → Prop} {t1 t6 t7 t8 tS n1 n6 n7 n8 n9 n10 : Nat} {D : Nat → Bool} {e : Env} {ds : List Deferred} {L : Own} (h : ZaR w base x its b4 v E0 t1 t6 t7 t8 tS n1 n6 n7 n8 n9 n10 D e ds L) (hD : D n1 = false) : D n10 = false := by
  cases q : D n10 with
  | false => rfl
  | true => have := (h.dc.2.1 (h.dc.1 q)).2; rw [hD] at this; cases this
theorem semT_ownZ {c : Cfg} {code : Code} {Q : Post} {wb : World} {e : Env} {ds : List Deferred} {L L' : Own} (h : L' = L) (hs : SemT c (tag code) (tag Q) wb e ds L') : SemT c (tag code) (tag Q) wb e ds L := h ▸ hs
theorem za_perm (o : Nat × Obj) (A B C D : Own) : (o :: (A ++ (B ++ (C ++ D)))).Perm (A ++ ((B ++ C) ++ o :: D)) := by
  rw [← List.append_assoc B]
  exact List.perm_middle.symm.trans (List.Perm.append_left A List.perm_middle.symm)
theorem zo_perm (o4 o3 o2 o1 : Nat × Obj) (A B : Own) : (A ++ (B ++ [o4, o3, o2, o1])).Perm (o2 :: o4 :: o3 :: o1 :: (A ++ B)) := by
  rw [← List.append_assoc]
  exact List.perm_append_comm.trans (List.perm_middle (l₁ := [o4, o3]))
def nilRw : Rw := ⟨none, 0, 0, []⟩
theorem nilRw_ok : nilRw.OK := .inl ⟨rfl, rfl, rfl⟩
theorem zeV_list {tx : List UInt8} {ls : List Vl} {x : Rw} {its : List Rw} (htx : tx.length ≤ 9223372036854775807) (hx : x.OK) (hn : x.n = ls.length) (hk : ZeK ls its (x.cs.take (x.n * 4))) : ZeV (.mk false 0 tx ls) (x :: its) x.at_ x.c := by
  rw [ZeV]
  exact ⟨htx, by omega, x, its, rfl, hx, hn, rfl, rfl, hk⟩
theorem zeV_nil (nu : Bool) {tx : List UInt8} (htx : tx.length ≤ 9223372036854775807) : ZeV (.mk nu 0 tx []) [nilRw] none 0 := by
  rw [ZeV]
  exact ⟨htx, by omega, nilRw, [], rfl, nilRw_ok, rfl, rfl, rfl, by rw [ZeK]; exact ⟨rfl, rfl⟩⟩
theorem way_cells {x : Rw} {ls : List Vl} (h : x.n = ls.length) : Value.agg #[.bool false, i64 0, str [], x.way] = .agg ((Vl.mk false 0 [] ls).cells x.at_ x.c).toArray := by
  simp [Vl.cells, Rw.way, h, Vl.nu, Vl.num, Vl.tx, Vl.ls]
theorem zero_14 {d : Nat} {f : Fld} (hl : ¬ letsP f = true) (h : f.k = 14) : zeroD (d + 1) f = .mk false 0 (List.replicate f.wd.toNat 0) [] := by
  rw [zeroD, if_neg hl, if_neg (by omega), if_pos h, if_neg (by omega), if_neg (by omega), if_neg (by omega)]
theorem zero_18 {d : Nat} {f g : Fld} (hl : ¬ letsP f = true) (h : f.k = 18) (hg : f.sub[0]? = some g) : zeroD (d + 1) f = .mk false 0 [] [zeroD d g] := by
  rw [zeroD, if_neg hl, if_neg (by omega), if_neg (by omega), if_pos h, hg]
theorem zero_16 {d : Nat} {f g : Fld} (hl : ¬ letsP f = true) (h : f.k = 16) (hg : f.sub[0]? = some g) : zeroD (d + 1) f = .mk false 0 [] (List.replicate f.wd.toNat (zeroD d g)) := by
  rw [zeroD, if_neg hl, if_neg (by omega), if_neg (by omega), if_neg (by omega), if_pos h, hg]
theorem zero_17 {d : Nat} {f : Fld} (hl : ¬ letsP f = true) (h : f.k = 17) : zeroD (d + 1) f = .mk false 0 [] (f.sub.map (zeroD d)) := by
  rw [zeroD, if_neg hl, if_neg (by omega), if_neg (by omega), if_neg (by omega), if_neg (by omega), if_pos h]
theorem zero_else {d : Nat} {f : Fld} (hl : ¬ letsP f = true) (h1 : f.k ≠ 14) (h2 : f.k ≠ 16) (h3 : f.k ≠ 17) (h4 : f.k ≠ 18) (h5 : ¬ (f.k = 19 ∨ f.k = 20)) : zeroD (d + 1) f = .mk false 0 [] [] := by
  rw [zeroD, if_neg hl, if_neg h5, if_neg h1, if_neg h4, if_neg h2, if_neg h3]
/-- The type of a field, in a block. -/
def oTy (b : Nat) (k wd id ix : Int) (a : Option Addr) (n c : Nat) : Nat × Obj := (b, Obj.cells #[i64 k, i64 wd, i64 id, i64 ix, .slice a n c] 24 (0, 0))
def oFl (b : Nat) (f : Fld) (a : Option Addr) (c : Nat) : Nat × Obj := (b, Obj.cells (f.cells a c).toArray 26 (0, 0))
/-- What is owned while a zero value is built. -/
def zoB (b1 b2 b3 : Nat) (f : Fld) (a : Option Addr) (c : Nat) : Own := [oTy b3 f.k f.wd f.id f.ix a f.sub.length c, oVl b2 (.slice none 0 0), oFl b1 f a c]
structure ZoI (w0 : World) (vs : Nat → List Vl) (N tI b1 b2 b3 b4 : Nat) (f : Fld) (a : Option Addr) (c : Nat) (i : Nat) (wb : World) (e : Env) (ds : List Deferred) (L : Own) : Prop where
  hw : wb = w0
  hds : ds = []
  hi : i ≤ N
  h2 : e 2 = .pointer (some ⟨b2, 0, none⟩)
  h3 : e 3 = .pointer (some ⟨b3, 0, none⟩)
  h4 : e 4 = .pointer (some ⟨b4, 0, none⟩)
  hI : e tI = i64 i
  o : ∃ (x : Rw) (its : List Rw), x.OK ∧ x.n = (vs i).length ∧ ZeK (vs i) its (x.cs.take (x.n * 4)) ∧ (∀ p ∈ x.own, w0.heap.size ≤ p.1) ∧ (∀ p ∈ ownR its, w0.heap.size ≤ p.1) ∧ L = x.own ++ (ownR its ++ oVl b4 x.way :: zoB b1 b2 b3 f a c)
/-- What a call that builds a zero value answers. -/
abbrev ZoS (v : Vl) (u : Value) (M : Own) : Prop := ∃ its a c, u = .agg (v.cells a c).toArray ∧ M = ownR its ∧ ZeV v its a c
def ZoOK (d : Nat) : Prop := ∀ (w : World) (lo : Nat) (ind : Bool) (f : Fld) (a : Option Addr) (c : Nat), lo ≤ w.heap.size → okZ d ind f → FlAt w lo f a c →
  Calls Tryd.prog 38 #[.agg (f.cells a c).toArray] w (RetsN w (ZoS (zeroD d f)))
theorem zeroOf_step (d : Nat) (hT : ZoOK d) : ZoOK (d + 1) := by
  intro w lo ind f a c hlo hok hA
  have hkids := few_kids hok
  have hnls := lets_is_nl (d + 1) hok
  refine enterT (args := [.agg (f.cells a c).toArray]) Tryd.func38 rfl Tryd.ntmps38 (congrArg Array.toList Tryd.results38) (by kernel_rfl) (by simp) (Sy.refl w) ?_
  simp (disch := omega) only [push_cast, Nat.reduceEqDiff, Fld.cells]
  refine newI (fun b1 hb1 hn1 => ?_)
  simp (disch := omega) only [push_cast, Nat.reduceEqDiff, Fld.cells]
  refine newI (fun b2 hb2 hn2 => ?_)
  simp (disch := omega) only [push_cast, Nat.reduceEqDiff, Fld.cells]
  refine loadX_agg Shp.eq mem1 rfl rfl ?_
  simp (disch := omega) only [push_cast, Nat.reduceEqDiff]
  refine newI (fun b3 hb3 hn3 => ?_)
  simp (disch := omega) only [push_cast, Nat.reduceEqDiff]
  refine storeX 0 rfl Siz.eq rfl rfl (by simp [Value.oneCell']) (by simp) ?_
  simp (disch := omega) only [push_cast, Nat.reduceEqDiff]
  have hL3 : ∀ x y z : Obj, ∀ p ∈ [(b3, x), (b2, y), (b1, z)], w.heap.size ≤ p.1 := fun x y z p hp => by
    simp only [List.mem_cons, List.mem_nil_iff, or_false] at hp
    rcases hp with rfl | rfl | rfl <;> assumption
  refine ldOne Shp.eq mem2 rfl ?_
  simp (disch := omega) only [push_cast, Nat.reduceEqDiff]
  by_cases h20 : f.k = 20
  · obtain ⟨g, hg, hg2⟩ := one_child hok (by omega)
    obtain ⟨b, off, ga, gc, rfl, hb, hat, hG⟩ := hA.get (i := 0) (g := g) (by rw [hg]; rfl)
    have hlen : 0 < f.sub.length := by rw [hg]; simp
    rcases hnl : f.nl with _ | _
    · simp (disch := omega) only [push_cast, Nat.reduceEqDiff]
      rw [V_cond]
      simp (disch := omega) only [push_cast, Nat.reduceEqDiff]
      refine newI (fun b4 hb4 hn4 => ?_)
      simp (disch := omega) only [push_cast, Nat.reduceEqDiff]
      refine storeX 0 rfl Siz.eq rfl rfl (by simp [Value.oneCell']) (by simp) ?_
      simp (disch := omega) only [push_cast, Nat.reduceEqDiff]
      have hL : ∀ x y z u : Obj, ∀ p ∈ [(b4, x), (b3, y), (b2, z), (b1, u)], w.heap.size ≤ p.1 := fun x y z u p hp => by
        simp only [List.mem_cons, List.mem_nil_iff, or_false] at hp
        rcases hp with rfl | rfl | rfl | rfl <;> assumption
      refine ldOne Shp.eq mem1 rfl ?_
      simp (disch := omega) only [push_cast, Nat.reduceEqDiff]
      rw [V_block]
      simp (disch := omega) only [push_cast, Nat.reduceEqDiff]
      rw [V_cond]
      simp (disch := omega) only [push_cast, Nat.reduceEqDiff]
      refine condX_d (fun hn => by omega) (fun _ => ?_)
      simp (disch := omega) only [push_cast, Nat.reduceEqDiff]
      rw [V_cond]
      simp (disch := omega) only [push_cast, Nat.reduceEqDiff]
      refine condX_d (fun hn => by omega) (fun _ => ?_)
      simp (disch := omega) only [push_cast, Nat.reduceEqDiff]
      rw [V_cond]
      simp (disch := omega) only [push_cast, Nat.reduceEqDiff]
      refine condX_d (fun _ => ?_) (fun hn => absurd h20 hn)
      simp (disch := omega) only [push_cast, Nat.reduceEqDiff]
      refine ldOne Shp.eq mem1 rfl ?_
      simp (disch := omega) only [push_cast, Nat.reduceEqDiff]
      refine ldAggF Shp.eq hat rfl (out_of (fun p hp => Nat.lt_of_lt_of_le (Nat.lt_of_lt_of_le hb hlo) (hL _ _ _ _ p hp))) ?_
      simp (disch := omega) only [push_cast, Nat.reduceEqDiff, Fld.cells]
      refine callV en_38 (callX_newR (fun w' hw' => hT w' lo _ g ga gc (Nat.le_trans hlo hw'.size) hg2 (hG.sy hlo hw' (hL _ _ _ _))) (fun u M hM hMn hu => ?_))
      obtain ⟨its, a2, c2, rfl, rfl, hZ⟩ := hu
      simp (disch := omega) only [push_cast, Nat.reduceEqDiff, Vl.cells]
      refine storeX 2 rfl Siz.eq rfl rfl (by simp [Value.oneCell']) (by simp) ?_
      simp (disch := omega) only [push_cast, Nat.reduceEqDiff]
      refine loadX_agg Shp.eq mem2 rfl rfl ?_
      simp (disch := omega) only [push_cast, Nat.reduceEqDiff]
      exact fun w' hw' => ⟨_, ownR its, rfl, hw'.left (A := [_, _, _, _]) (hL _ _ _ _), hM, its, a2, c2, by rw [zero_runs hok h20 hg]; rfl, rfl, by rw [zero_runs hok h20 hg]; exact hZ⟩
    · simp (disch := omega) only [push_cast, Nat.reduceEqDiff]
      refine ldOne Shp.eq mem0 rfl ?_
      simp (disch := omega) only [push_cast, Nat.reduceEqDiff, ne_eq]
      rw [V_cond]
      simp (disch := omega) only [push_cast, Nat.reduceEqDiff, ne_eq]
      refine condX_d (fun hm => absurd h20 hm) (fun _ => ?_)
      simp (disch := omega) only [push_cast, Nat.reduceEqDiff]
      refine newI (fun b4 hb4 hn4 => ?_)
      simp (disch := omega) only [push_cast, Nat.reduceEqDiff]
      refine storeX 0 rfl Siz.eq rfl rfl (by simp [Value.oneCell']) (by simp) ?_
      simp (disch := omega) only [push_cast, Nat.reduceEqDiff]
      have hL : ∀ x y z u : Obj, ∀ p ∈ [(b4, x), (b3, y), (b2, z), (b1, u)], w.heap.size ≤ p.1 := fun x y z u p hp => by
        simp only [List.mem_cons, List.mem_nil_iff, or_false] at hp
        rcases hp with rfl | rfl | rfl | rfl <;> assumption
      refine ldOne Shp.eq mem1 rfl ?_
      simp (disch := omega) only [push_cast, Nat.reduceEqDiff]
      rw [V_block]
      simp (disch := omega) only [push_cast, Nat.reduceEqDiff]
      rw [V_cond]
      simp (disch := omega) only [push_cast, Nat.reduceEqDiff]
      refine condX_d (fun hn => by omega) (fun _ => ?_)
      simp (disch := omega) only [push_cast, Nat.reduceEqDiff]
      rw [V_cond]
      simp (disch := omega) only [push_cast, Nat.reduceEqDiff]
      refine condX_d (fun hn => by omega) (fun _ => ?_)
      simp (disch := omega) only [push_cast, Nat.reduceEqDiff]
      rw [V_cond]
      simp (disch := omega) only [push_cast, Nat.reduceEqDiff]
      refine condX_d (fun _ => ?_) (fun hn => absurd h20 hn)
      simp (disch := omega) only [push_cast, Nat.reduceEqDiff]
      refine ldOne Shp.eq mem1 rfl ?_
      simp (disch := omega) only [push_cast, Nat.reduceEqDiff]
      refine ldAggF Shp.eq hat rfl (out_of (fun p hp => Nat.lt_of_lt_of_le (Nat.lt_of_lt_of_le hb hlo) (hL _ _ _ _ p hp))) ?_
      simp (disch := omega) only [push_cast, Nat.reduceEqDiff, Fld.cells]
      refine callV en_38 (callX_newR (fun w' hw' => hT w' lo _ g ga gc (Nat.le_trans hlo hw'.size) hg2 (hG.sy hlo hw' (hL _ _ _ _))) (fun u M hM hMn hu => ?_))
      obtain ⟨its, a2, c2, rfl, rfl, hZ⟩ := hu
      simp (disch := omega) only [push_cast, Nat.reduceEqDiff, Vl.cells]
      refine storeX 2 rfl Siz.eq rfl rfl (by simp [Value.oneCell']) (by simp) ?_
      simp (disch := omega) only [push_cast, Nat.reduceEqDiff]
      refine loadX_agg Shp.eq mem2 rfl rfl ?_
      simp (disch := omega) only [push_cast, Nat.reduceEqDiff]
      exact fun w' hw' => ⟨_, ownR its, rfl, hw'.left (A := [_, _, _, _]) (hL _ _ _ _), hM, its, a2, c2, by rw [zero_runs hok h20 hg]; rfl, rfl, by rw [zero_runs hok h20 hg]; exact hZ⟩
  rcases hnl : f.nl with _ | _
  rotate_left
  · simp (disch := omega) only [push_cast, Nat.reduceEqDiff]
    refine ldOne Shp.eq mem0 rfl ?_
    simp (disch := omega) only [push_cast, Nat.reduceEqDiff, ne_eq]
    rw [V_cond]
    simp (disch := omega) only [push_cast, Nat.reduceEqDiff, ne_eq]
    refine condX_d (fun _ => ?_) (fun hm => absurd h20 hm)
    simp (disch := omega) only [push_cast, Nat.reduceEqDiff]
    refine storeX 1 rfl Siz.eq rfl rfl (by simp [Value.oneCell']) (by simp) ?_
    simp (disch := omega) only [push_cast, Nat.reduceEqDiff]
    refine loadX_agg Shp.eq mem1 rfl rfl ?_
    simp (disch := omega) only [push_cast, Nat.reduceEqDiff]
    exact fun w' hw' => ⟨_, [], rfl, by simpa using hw'.end (hL3 _ _ _), by simp, [nilRw], none, 0, by rw [zero_null (by rw [hnls, hnl])]; rfl, rfl, by rw [zero_null (by rw [hnls, hnl])]; exact zeV_nil _ (by simp)⟩
  have hl : ¬ letsP f = true := by rw [hnls, hnl]; simp
  simp (disch := omega) only [push_cast, Nat.reduceEqDiff]
  rw [V_cond]
  simp (disch := omega) only [push_cast, Nat.reduceEqDiff]
  refine newI (fun b4 hb4 hn4 => ?_)
  simp (disch := omega) only [push_cast, Nat.reduceEqDiff]
  refine storeX 0 rfl Siz.eq rfl rfl (by simp [Value.oneCell']) (by simp) ?_
  simp (disch := omega) only [push_cast, Nat.reduceEqDiff]
  have hL : ∀ x y z u : Obj, ∀ p ∈ [(b4, x), (b3, y), (b2, z), (b1, u)], w.heap.size ≤ p.1 := fun x y z u p hp => by
    simp only [List.mem_cons, List.mem_nil_iff, or_false] at hp
    rcases hp with rfl | rfl | rfl | rfl <;> assumption
  have hBn : ∀ (a : Option Addr), ∀ p ∈ zoB b1 b2 b3 f a c, w.heap.size ≤ p.1 := fun a p hp => by
    simp only [zoB, List.mem_cons, List.mem_nil_iff, or_false] at hp
    rcases hp with rfl | rfl | rfl <;> assumption
  refine ldOne Shp.eq mem1 rfl ?_
  simp (disch := omega) only [push_cast, Nat.reduceEqDiff]
  rw [V_block]
  simp (disch := omega) only [push_cast, Nat.reduceEqDiff]
  rw [V_cond]
  simp (disch := omega) only [push_cast, Nat.reduceEqDiff]
  refine condX_d (fun h14 => ?_) (fun h14 => ?_)
  · have hwd := wid14 hok.1.1.2.1 h14
    simp (disch := omega) only [push_cast, Nat.reduceEqDiff]
    refine ldOne Shp.eq mem1 rfl ?_
    simp (disch := omega) only [push_cast, Nat.reduceEqDiff]
    refine makeBytesX un_91 (n := f.wd.toNat) (by omega) (by omega) (fun v L' hro => ?_)
    simp (disch := omega) only [push_cast, Nat.reduceEqDiff]
    refine convS un_91 Tryd.underlying5 Tryd.underlying9 (s := List.replicate f.wd.toNat 0) hro ?_
    simp (disch := omega) only [push_cast, Nat.reduceEqDiff]
    obtain ⟨R, rfl, hR⟩ := RowO.unframe hro
    refine storeX_weak (fun w hw => hw.left (A := R) (fun p hp => RowO.new hR (by simp) p hp)) (storeX 0 rfl Siz.eq rfl rfl (by simp [Value.oneCell']) (by simp) ?_)
    simp (disch := omega) only [push_cast, Nat.reduceEqDiff]
    refine loadX_agg Shp.eq mem0 rfl rfl ?_
    simp (disch := omega) only [push_cast, Nat.reduceEqDiff]
    refine storeX 2 rfl Siz.eq rfl rfl (by simp [Value.oneCell']) (by simp) ?_
    simp (disch := omega) only [push_cast, Nat.reduceEqDiff]
    refine loadX_agg Shp.eq mem2 rfl rfl ?_
    simp (disch := omega) only [push_cast, Nat.reduceEqDiff]
    exact fun w' hw' => ⟨_, [], rfl, by simpa using hw'.end (hL _ _ _ _), by simp, [nilRw], none, 0, by rw [zero_14 hl h14]; rfl, rfl, by rw [zero_14 hl h14]; exact zeV_nil _ (by simp; omega)⟩
  simp (disch := omega) only [push_cast, Nat.reduceEqDiff]
  rw [V_cond]
  simp (disch := omega) only [push_cast, Nat.reduceEqDiff]
  refine condX_d (fun h19 => ?_) (fun h19 => ?_)
  · obtain ⟨g, hg, hg2⟩ := one_child hok (by omega)
    obtain ⟨b, off, ga, gc, rfl, hb, hat, hG⟩ := hA.get (i := 0) (g := g) (by rw [hg]; rfl)
    have hlen : 0 < f.sub.length := by rw [hg]; simp
    simp (disch := omega) only [push_cast, Nat.reduceEqDiff]
    rw [V_cond]
    simp (disch := omega) only [push_cast, Nat.reduceEqDiff]
    refine condX_d (fun _ => ?_) (fun hn => absurd h19 hn)
    simp (disch := omega) only [push_cast, Nat.reduceEqDiff]
    refine ldOne Shp.eq mem1 rfl ?_
    simp (disch := omega) only [push_cast, Nat.reduceEqDiff]
    refine ldAggF Shp.eq hat rfl (out_of (fun p hp => Nat.lt_of_lt_of_le (Nat.lt_of_lt_of_le hb hlo) (hL _ _ _ _ p hp))) ?_
    simp (disch := omega) only [push_cast, Nat.reduceEqDiff, Fld.cells]
    refine callV en_38 (callX_newR (fun w' hw' => hT w' lo _ g ga gc (Nat.le_trans hlo hw'.size) hg2 (hG.sy hlo hw' (hL _ _ _ _))) (fun u M hM hMn hu => ?_))
    obtain ⟨its, a2, c2, rfl, rfl, hZ⟩ := hu
    simp (disch := omega) only [push_cast, Nat.reduceEqDiff, Vl.cells]
    refine storeX 2 rfl Siz.eq rfl rfl (by simp [Value.oneCell']) (by simp) ?_
    simp (disch := omega) only [push_cast, Nat.reduceEqDiff]
    refine loadX_agg Shp.eq mem2 rfl rfl ?_
    simp (disch := omega) only [push_cast, Nat.reduceEqDiff]
    exact fun w' hw' => ⟨_, ownR its, rfl, hw'.left (A := [_, _, _, _]) (hL _ _ _ _), hM, its, a2, c2, by rw [zero_in hl (.inl h19) (by rw [hg]; rfl)]; rfl, rfl, by rw [zero_in hl (.inl h19) (by rw [hg]; rfl)]; exact hZ⟩
  simp (disch := omega) only [push_cast, Nat.reduceEqDiff]
  rw [V_cond]
  simp (disch := omega) only [push_cast, Nat.reduceEqDiff]
  refine condX_d (fun hn => absurd hn h20) (fun _ => ?_)
  simp (disch := omega) only [push_cast, Nat.reduceEqDiff]
  rw [V_cond]
  simp (disch := omega) only [push_cast, Nat.reduceEqDiff]
  refine condX_d (fun h18 => ?_) (fun h18 => ?_)
  · obtain ⟨g, hg, hg2⟩ := first_child hok h18
    obtain ⟨b, off, ga, gc, rfl, hb, hat, hG⟩ := hA.get hg
    have hlen : 0 < f.sub.length := (List.getElem?_eq_some_iff.1 hg).1
    obtain ⟨x, hx⟩ : ∃ x, x = nilRw := ⟨_, rfl⟩
    obtain ⟨its, hits⟩ : ∃ its : List Rw, its = [] := ⟨_, rfl⟩
    have hxok : x.OK := by rw [hx]; exact nilRw_ok
    have hxn : ∀ p ∈ x.own, w.heap.size ≤ p.1 := by rw [hx]; intro p hp; simp [Rw.own, nilRw] at hp
    have hin : ∀ p ∈ ownR its, w.heap.size ≤ p.1 := by rw [hits]; intro p hp; simp [ownR] at hp
    have hsm : x.n + 1 ≤ 1000000 := by rw [hx]; decide
    have hBn := hBn (some ⟨b, off, none⟩)
    have hS0 : ZaS w (zoB b1 b2 b3 f (some ⟨b, off, none⟩) c) x its b4 (zeroD d g) (.bool false) (.bool false) (.bool false) (x.own ++ (ownR its ++ oVl b4 x.way :: zoB b1 b2 b3 f (some ⟨b, off, none⟩) c)) 0 := rfl
    have hsubB : ∀ p ∈ [oTy b3 f.k f.wd f.id f.ix (some ⟨b, off, none⟩) f.sub.length c], p ∈ zoB b1 b2 b3 f (some ⟨b, off, none⟩) c := fun p hp => by rw [List.mem_singleton.1 hp]; exact .head _
    simp (disch := omega) only [push_cast, Nat.reduceEqDiff]
    refine semT_ownZ (L' := x.own ++ (ownR its ++ oVl b4 x.way :: zoB b1 b2 b3 f (some ⟨b, off, none⟩) c)) (by subst hx; subst hits; rw [zoB, oFl, Fld.cells, hnl]; rfl) ?_
    refine freeIT [0, 2, 3, 4, 5] [1, 6, 7, 8, 9, 10] [(1, []), (6, []), (7, [6]), (8, [1, 7]), (9, [8]), (10, [8, 9])] [oTy b3 f.k f.wd f.id f.ix (some ⟨b, off, none⟩) f.sub.length c] (ZaR w (zoB b1 b2 b3 f (some ⟨b, off, none⟩) c) x its b4 (zeroD d g) (fun e => e 2 = .pointer (some ⟨b2, 0, none⟩) ∧ e 3 = .pointer (some ⟨b3, 0, none⟩) ∧ e 4 = .pointer (some ⟨b4, 0, none⟩) ∧ e 37 = .pointer (some ⟨b4, 3, none⟩) ∧ e 42 = .agg (g.cells ga gc).toArray) 38 43 44 45 46 1 6 7 8 9 10) (by kernel_rfl) mixed (by kernel_rfl) (by kernel_rfl) (fun D e ds L h => stab_mem (fun p hp => h.o.base_mem p (hsubB p hp)) (by simp) (h.o.new hBn hxn hin hb4)) ?_ ?_ (stab_mem (fun p hp => hS0.base_mem p (hsubB p hp)) (by simp) (hS0.new hBn hxn hin hb4)) ?_
    · intro p hp D e ds L hD hdep I
      obtain ⟨h2, h3, h4, eA, eC⟩ := I.he
      obtain rfl := I.hds
      have hnew := I.o.new hBn hxn hin hb4
      simp only [List.mem_cons, List.mem_nil_iff, or_false] at hp
      rcases hp with rfl | rfl | rfl | rfl | rfl | rfl
      all_goals simp only [List.mem_cons, List.mem_nil_iff, or_false, forall_eq_or_imp, forall_eq, false_implies, implies_true] at hD hdep
      · simp (disch := omega) only [push_cast, Nat.reduceEqDiff, eA]
        refine ldOne Shp.eq (I.v_mem (I.off1 hD)) rfl ?_
        simp (disch := omega) only [push_cast, Nat.reduceEqDiff]
        exact ⟨_, fun w hw => hw, I.s1 hD ⟨by simpa [upd] using h2, by simpa [upd] using h3, by simpa [upd] using h4, by simpa [upd] using eA, by simpa [upd] using eC⟩ (by decide) (by decide) (by decide)⟩
      · simp (disch := omega) only [push_cast, Nat.reduceEqDiff, eC]
        refine callV en_38 (callX_new (fun w' hw' => hT w' lo _ g ga gc (Nat.le_trans hlo hw'.size) hg2 (hG.sy hlo hw' hnew)) (fun u M hM hMn hu => ?_))
        obtain ⟨its2, a2, c2, rfl, rfl, hZ⟩ := hu
        simp (disch := omega) only [push_cast, Nat.reduceEqDiff]
        exact ⟨_, fun w hw => hw, I.s6 hD hZ hM ⟨by simpa [upd] using h2, by simpa [upd] using h3, by simpa [upd] using h4, by simpa [upd] using eA, by simpa [upd] using eC⟩ (by decide) (by decide) (by decide)⟩
      · obtain ⟨its2, a2, c2, hZ, hi2, e6, hL7⟩ := I.call hdep hD
        simp (disch := omega) only [push_cast, Nat.reduceEqDiff, e6, Vl.cells]
        refine bs_27_1 (newI fun b7 hb7 hn7 => ?_)
        simp (disch := omega) only [push_cast, Nat.reduceEqDiff]
        exact ⟨_, fun w hw => hw, I.s7 hdep hD hZ hi2 hb7 hL7 ⟨by simpa [upd] using h2, by simpa [upd] using h3, by simpa [upd] using h4, by simpa [upd] using eA, by simpa [upd] using eC⟩ (by decide) (by decide) (by decide)⟩
      · have e1 := I.d1 hdep.1
        simp (disch := omega) only [push_cast, Nat.reduceEqDiff, e1]
        refine ZaS.app (I.row hdep.2 hD) hxok hxn hsm (fun x' L' L'' hsub hz => ?_)
        simp (disch := omega) only [push_cast, Nat.reduceEqDiff]
        exact ⟨L'', hsub, I.s8 hdep.1 hdep.2 hD hz ⟨by simpa [upd] using h2, by simpa [upd] using h3, by simpa [upd] using h4, by simpa [upd] using eA, by simpa [upd] using eC⟩ (by decide) (by decide) (by decide)⟩
      · simp (disch := omega) only [push_cast, Nat.reduceEqDiff, h4]
        exact ⟨_, fun w hw => hw, I.s9 ⟨by simpa [upd] using h2, by simpa [upd] using h3, by simpa [upd] using h4, by simpa [upd] using eA, by simpa [upd] using eC⟩ (by decide) (by decide)⟩
      · obtain ⟨its2, a2, c2, x', hZ, hi2, r3, r4, r5, r6, e8, rfl⟩ := I.app hdep.1 hD
        have eS := I.d9 hdep.2
        simp (disch := omega) only [push_cast, Nat.reduceEqDiff, eS, e8, oVl]
        refine storeX 0 rfl Siz.eq rfl rfl (by simp [Value.oneCell', Rw.way]) (by simp) ?_
        simp (disch := omega) only [push_cast, Nat.reduceEqDiff]
        exact ⟨_, fun w hw => hw, I.s10 hdep.1 hZ hi2 r3 r4 r5 r6 (by decide) (by decide)⟩
    · intro D e ds L hD I
      obtain ⟨h2, h3, h4, eA, eC⟩ := I.he
      obtain rfl := I.hds
      obtain ⟨its2, a2, c2, x', hZ, hi2, r3, r4, r5, r6, rfl⟩ := I.done (hD 10 (by simp))
      subst hits
      have hL4 : ∀ x y z u : Obj, ∀ p ∈ [(b2, x), (b4, y), (b3, z), (b1, u)], w.heap.size ≤ p.1 := fun x y z u p hp => by
          simp only [List.mem_cons, List.mem_nil_iff, or_false] at hp
          rcases hp with rfl | rfl | rfl | rfl <;> assumption
      simp (disch := omega) only [push_cast, Nat.reduceEqDiff, h2, h3, h4]
      refine loadX_agg Shp.eq (.head _) rfl rfl ?_
      simp (disch := omega) only [push_cast, Nat.reduceEqDiff, h2, h4]
      refine storeX_weak (fun w hw => hw.perm ((za_perm _ _ _ _ _).trans (zo_perm _ _ _ _ _ _))) (storeX 0 rfl Siz.eq rfl rfl (by simp [Value.oneCell', Rw.way]) (by simp) ?_)
      simp (disch := omega) only [push_cast, Nat.reduceEqDiff, h2, h4]
      refine loadX_agg Shp.eq mem0 rfl rfl ?_
      simp (disch := omega) only [push_cast, Nat.reduceEqDiff]
      exact fun w' hw' => ⟨_, ownR (x' :: its2), rfl, (by rw [ownR_cons]; exact hw'.left (A := [_, _, _, _]) (hL4 _ _ _ _)), (by
        rw [ownR_cons]
        intro p hp
        rcases List.mem_append.1 hp with hp | hp
        · exact r6 p hp
        · exact hi2 p hp), x' :: its2, x'.at_, x'.c, by rw [zero_18 hl h18 hg]; exact way_cells (by rw [r4, hx]; rfl), rfl, by rw [zero_18 hl h18 hg]; exact zeV_list (by simp) r3 (by rw [r4, hx]; rfl) (by rw [r5, hx]; exact ZeK.single hZ)⟩
    simp (disch := omega) only [push_cast, Nat.reduceEqDiff]
    refine ldOne Shp.eq (.head _) rfl ?_
    simp (disch := omega) only [push_cast, Nat.reduceEqDiff]
    refine ldAggF Shp.eq hat rfl (out_of (fun p hp => Nat.lt_of_lt_of_le (Nat.lt_of_lt_of_le hb hlo) (hBn p (hsubB p hp)))) ?_
    simp (disch := omega) only [push_cast, Nat.reduceEqDiff, Fld.cells]
    exact ⟨rfl, ⟨rfl, rfl, rfl, rfl, rfl⟩, (fun h => by simp at h), (by simp), rfl, (fun h => by simp at h)⟩
  simp (disch := omega) only [push_cast, Nat.reduceEqDiff]
  rw [V_cond]
  simp (disch := omega) only [push_cast, Nat.reduceEqDiff]
  refine condX_d (fun h16 => ?_) (fun h16 => ?_)
  · have hwd := wid16 hok.1.1.2.1 h16
    obtain ⟨g, hg, hg2⟩ := one_child hok (by omega)
    obtain ⟨b, off, ga, gc, rfl, hb, hat, hG⟩ := hA.get (i := 0) (g := g) (by rw [hg]; rfl)
    have hlen : 0 < f.sub.length := by rw [hg]; simp
    have hBn := hBn (some ⟨b, off, none⟩)
    simp (disch := omega) only [push_cast, Nat.reduceEqDiff]
    rw [V_block]
    simp (disch := omega) only [push_cast, Nat.reduceEqDiff]
    refine loopW (G := Nat) (ZoI w (fun i => List.replicate i (zeroD d g)) f.wd.toNat 5 b1 b2 b3 b4 f (some ⟨b, off, none⟩) c) (fun i => f.wd.toNat - i) 0 _ (fun w hw => hw) (by kernel_rfl) ⟨rfl, rfl, by omega, rfl, rfl, rfl, rfl, nilRw, [], nilRw_ok, rfl, by rw [show List.replicate 0 (zeroD d g) = [] from rfl, ZeK]; exact ⟨rfl, rfl⟩, (fun p hp => by simp [Rw.own, nilRw] at hp), (fun p hp => by simp [ownR] at hp), (by rw [zoB, oFl, Fld.cells, hnl]; rfl)⟩ ?_
    rintro i wb e ds L ⟨rfl, rfl, hi, h2, h3, h4, hI, x, its, hxok, hxl, hzk, hxn, hin, rfl⟩
    have hxl : x.n = i := by rw [hxl, List.length_replicate]
    have hsm : x.n + 1 ≤ 1000000 := by omega
    have hS0 : ZaS wb (zoB b1 b2 b3 f (some ⟨b, off, none⟩) c) x its b4 (zeroD d g) (.bool false) (.bool false) (.bool false) (x.own ++ (ownR its ++ oVl b4 x.way :: zoB b1 b2 b3 f (some ⟨b, off, none⟩) c)) 0 := rfl
    have hsubB : ∀ p ∈ [oTy b3 f.k f.wd f.id f.ix (some ⟨b, off, none⟩) f.sub.length c], p ∈ zoB b1 b2 b3 f (some ⟨b, off, none⟩) c := fun p hp => by rw [List.mem_singleton.1 hp]; exact .head _
    simp (disch := omega) only [push_cast, Nat.reduceEqDiff, h2, h3, h4, hI]
    refine ldOne Shp.eq (hS0.base_mem _ (.head _)) rfl ?_
    simp (disch := omega) only [push_cast, Nat.reduceEqDiff, h2, h3, h4, hI]
    rw [V_cond]
    simp (disch := omega) only [push_cast, Nat.reduceEqDiff, h2, h3, h4, hI]
    refine condX_d (fun hlt => ?_) (fun hge => ?_)
    rotate_left
    · simp (disch := omega) only [push_cast, Nat.reduceEqDiff, h2, h3, h4, hI]
      have hL4 : ∀ x y z u : Obj, ∀ p ∈ [(b2, x), (b4, y), (b3, z), (b1, u)], wb.heap.size ≤ p.1 := fun x y z u p hp => by
        simp only [List.mem_cons, List.mem_nil_iff, or_false] at hp
        rcases hp with rfl | rfl | rfl | rfl <;> assumption
      refine loadX_agg Shp.eq (hS0.v_mem (by omega)) rfl rfl ?_
      simp (disch := omega) only [push_cast, Nat.reduceEqDiff, h2, h4]
      refine storeX_weak (fun w hw => hw.perm (zo_perm _ _ _ _ _ _)) (storeX 0 rfl Siz.eq rfl rfl (by simp [Value.oneCell', Rw.way]) (by simp) ?_)
      simp (disch := omega) only [push_cast, Nat.reduceEqDiff, h2, h4]
      refine loadX_agg Shp.eq mem0 rfl rfl ?_
      simp (disch := omega) only [push_cast, Nat.reduceEqDiff]
      exact fun w' hw' => ⟨_, ownR (x :: its), rfl, (by rw [ownR_cons]; exact hw'.left (A := [_, _, _, _]) (hL4 _ _ _ _)), (by
        rw [ownR_cons]
        intro p hp
        rcases List.mem_append.1 hp with hp | hp
        · exact hxn p hp
        · exact hin p hp), x :: its, x.at_, x.c, by rw [zero_16 hl h16 (by rw [hg]; rfl)]; exact way_cells (by rw [hxl, List.length_replicate]; omega), rfl, by rw [zero_16 hl h16 (by rw [hg]; rfl)]; exact zeV_list (by simp) hxok (by rw [hxl, List.length_replicate]; omega) (by rw [show f.wd.toNat = i by omega]; exact hzk)⟩
    simp (disch := omega) only [push_cast, Nat.reduceEqDiff, h2, h3, h4, hI]
    rw [V_block]
    simp (disch := omega) only [push_cast, Nat.reduceEqDiff, h2, h3, h4, hI]
    refine freeIT [0, 2, 3, 4, 5] [1, 6, 7, 8, 9, 10] [(1, []), (6, []), (7, [6]), (8, [1, 7]), (9, [8]), (10, [8, 9])] [oTy b3 f.k f.wd f.id f.ix (some ⟨b, off, none⟩) f.sub.length c] (ZaR wb (zoB b1 b2 b3 f (some ⟨b, off, none⟩) c) x its b4 (zeroD d g) (fun e => e 2 = .pointer (some ⟨b2, 0, none⟩) ∧ e 3 = .pointer (some ⟨b3, 0, none⟩) ∧ e 4 = .pointer (some ⟨b4, 0, none⟩) ∧ e 5 = i64 i ∧ e 55 = .pointer (some ⟨b4, 3, none⟩) ∧ e 60 = .agg (g.cells ga gc).toArray) 56 61 62 63 64 1 6 7 8 9 10) (by kernel_rfl) mixed (by kernel_rfl) (by kernel_rfl) (fun D e ds L h => stab_mem (fun p hp => h.o.base_mem p (hsubB p hp)) (by simp) (h.o.new hBn hxn hin hb4)) ?_ ?_ (stab_mem (fun p hp => hS0.base_mem p (hsubB p hp)) (by simp) (hS0.new hBn hxn hin hb4)) ?_
    · intro p hp D e ds L hD hdep I
      obtain ⟨h2, h3, h4, hI, eA, eC⟩ := I.he
      obtain rfl := I.hds
      have hnew := I.o.new hBn hxn hin hb4
      simp only [List.mem_cons, List.mem_nil_iff, or_false] at hp
      rcases hp with rfl | rfl | rfl | rfl | rfl | rfl
      all_goals simp only [List.mem_cons, List.mem_nil_iff, or_false, forall_eq_or_imp, forall_eq, false_implies, implies_true] at hD hdep
      · simp (disch := omega) only [push_cast, Nat.reduceEqDiff, eA]
        refine ldOne Shp.eq (I.v_mem (I.off1 hD)) rfl ?_
        simp (disch := omega) only [push_cast, Nat.reduceEqDiff]
        exact ⟨_, fun w hw => hw, I.s1 hD ⟨by simpa [upd] using h2, by simpa [upd] using h3, by simpa [upd] using h4, by simpa [upd] using hI, by simpa [upd] using eA, by simpa [upd] using eC⟩ (by decide) (by decide) (by decide)⟩
      · simp (disch := omega) only [push_cast, Nat.reduceEqDiff, eC]
        refine callV en_38 (callX_new (fun w' hw' => hT w' lo _ g ga gc (Nat.le_trans hlo hw'.size) hg2 (hG.sy hlo hw' hnew)) (fun u M hM hMn hu => ?_))
        obtain ⟨its2, a2, c2, rfl, rfl, hZ⟩ := hu
        simp (disch := omega) only [push_cast, Nat.reduceEqDiff]
        exact ⟨_, fun w hw => hw, I.s6 hD hZ hM ⟨by simpa [upd] using h2, by simpa [upd] using h3, by simpa [upd] using h4, by simpa [upd] using hI, by simpa [upd] using eA, by simpa [upd] using eC⟩ (by decide) (by decide) (by decide)⟩
      · obtain ⟨its2, a2, c2, hZ, hi2, e6, hL7⟩ := I.call hdep hD
        simp (disch := omega) only [push_cast, Nat.reduceEqDiff, e6, Vl.cells]
        refine bs_27_1 (newI fun b7 hb7 hn7 => ?_)
        simp (disch := omega) only [push_cast, Nat.reduceEqDiff]
        exact ⟨_, fun w hw => hw, I.s7 hdep hD hZ hi2 hb7 hL7 ⟨by simpa [upd] using h2, by simpa [upd] using h3, by simpa [upd] using h4, by simpa [upd] using hI, by simpa [upd] using eA, by simpa [upd] using eC⟩ (by decide) (by decide) (by decide)⟩
      · have e1 := I.d1 hdep.1
        simp (disch := omega) only [push_cast, Nat.reduceEqDiff, e1]
        refine ZaS.app (I.row hdep.2 hD) hxok hxn hsm (fun x' L' L'' hsub hz => ?_)
        simp (disch := omega) only [push_cast, Nat.reduceEqDiff]
        exact ⟨L'', hsub, I.s8 hdep.1 hdep.2 hD hz ⟨by simpa [upd] using h2, by simpa [upd] using h3, by simpa [upd] using h4, by simpa [upd] using hI, by simpa [upd] using eA, by simpa [upd] using eC⟩ (by decide) (by decide) (by decide)⟩
      · simp (disch := omega) only [push_cast, Nat.reduceEqDiff, h4]
        exact ⟨_, fun w hw => hw, I.s9 ⟨by simpa [upd] using h2, by simpa [upd] using h3, by simpa [upd] using h4, by simpa [upd] using hI, by simpa [upd] using eA, by simpa [upd] using eC⟩ (by decide) (by decide)⟩
      · obtain ⟨its2, a2, c2, x', hZ, hi2, r3, r4, r5, r6, e8, rfl⟩ := I.app hdep.1 hD
        have eS := I.d9 hdep.2
        simp (disch := omega) only [push_cast, Nat.reduceEqDiff, eS, e8, oVl]
        refine storeX 0 rfl Siz.eq rfl rfl (by simp [Value.oneCell', Rw.way]) (by simp) ?_
        simp (disch := omega) only [push_cast, Nat.reduceEqDiff]
        exact ⟨_, fun w hw => hw, I.s10 hdep.1 hZ hi2 r3 r4 r5 r6 (by decide) (by decide)⟩
    · intro D e ds L hD I
      obtain ⟨h2, h3, h4, hI, eA, eC⟩ := I.he
      obtain rfl := I.hds
      obtain ⟨its2, a2, c2, x', hZ, hi2, r3, r4, r5, r6, rfl⟩ := I.done (hD 10 (by simp))
      simp (disch := omega) only [push_cast, Nat.reduceEqDiff, h2, h3, h4, hI]
      exact ⟨i + 1, _, fun w hw => hw.perm (za_perm _ _ _ _ _), ⟨rfl, rfl, by omega, h2, h3, h4, by simp only [upd]; rfl, x', its ++ its2, r3, by rw [r4, hxl, List.length_replicate], by rw [r5, List.replicate_succ']; exact ZeK.append (ZeK.single hZ) hzk, r6, (fun p hp => by
      rw [ownR_append] at hp
      rcases List.mem_append.1 hp with hp | hp
      · exact hin p hp
      · exact hi2 p hp), by rw [ownR_append]⟩, by omega⟩
    simp (disch := omega) only [push_cast, Nat.reduceEqDiff, h2, h3, h4, hI]
    refine ldOne Shp.eq (.head _) rfl ?_
    simp (disch := omega) only [push_cast, Nat.reduceEqDiff, h2, h3, h4, hI]
    refine ldAggF Shp.eq hat rfl (out_of (fun p hp => Nat.lt_of_lt_of_le (Nat.lt_of_lt_of_le hb hlo) (hBn p (hsubB p hp)))) ?_
    simp (disch := omega) only [push_cast, Nat.reduceEqDiff, h2, h3, h4, hI, Fld.cells]
    exact ⟨rfl, ⟨h2, h3, h4, hI, rfl, rfl⟩, (fun h => by simp at h), (by simp), rfl, (fun h => by simp at h)⟩
  simp (disch := omega) only [push_cast, Nat.reduceEqDiff]
  rw [V_cond]
  simp (disch := omega) only [push_cast, Nat.reduceEqDiff]
  refine condX_d (fun h17 => ?_) (fun h17 => ?_)
  rotate_left
  · simp (disch := omega) only [push_cast, Nat.reduceEqDiff]
    refine loadX_agg Shp.eq mem0 rfl rfl ?_
    simp (disch := omega) only [push_cast, Nat.reduceEqDiff]
    refine storeX 2 rfl Siz.eq rfl rfl (by simp [Value.oneCell']) (by simp) ?_
    simp (disch := omega) only [push_cast, Nat.reduceEqDiff]
    refine loadX_agg Shp.eq mem2 rfl rfl ?_
    simp (disch := omega) only [push_cast, Nat.reduceEqDiff]
    exact fun w' hw' => ⟨_, [], rfl, by simpa using hw'.end (hL _ _ _ _), by simp, [nilRw], none, 0, by rw [zero_else hl h14 h16 h17 h18 (by omega)]; rfl, rfl, by rw [zero_else hl h14 h16 h17 h18 (by omega)]; exact zeV_nil _ (by simp)⟩
  simp (disch := omega) only [push_cast, Nat.reduceEqDiff]
  rw [V_block]
  simp (disch := omega) only [push_cast, Nat.reduceEqDiff]
  refine loopW (G := Nat) (ZoI w (fun i => (f.sub.take i).map (zeroD d)) f.sub.length 6 b1 b2 b3 b4 f a c) (fun i => f.sub.length - i) 0 _ (fun w hw => hw) (by kernel_rfl) ⟨rfl, rfl, by omega, rfl, rfl, rfl, rfl, nilRw, [], nilRw_ok, rfl, by rw [show List.map (zeroD d) (List.take 0 f.sub) = [] from rfl, ZeK]; exact ⟨rfl, rfl⟩, (fun p hp => by simp [Rw.own, nilRw] at hp), (fun p hp => by simp [ownR] at hp), (by rw [zoB, oFl, Fld.cells, hnl]; rfl)⟩ ?_
  rintro i wb e ds L ⟨rfl, rfl, hi, h2, h3, h4, hI, x, its, hxok, hxl, hzk, hxn, hin, rfl⟩
  have hxl : x.n = i := by rw [hxl, List.length_map, List.length_take]; omega
  have hsm : x.n + 1 ≤ 1000000 := by omega
  simp (disch := omega) only [push_cast, Nat.reduceEqDiff, h2, h3, h4, hI]
  refine ldOne Shp.eq ((show ZaS wb (zoB b1 b2 b3 f a c) x its b4 (zeroD d f) (.bool false) (.bool false) (.bool false) (x.own ++ (ownR its ++ oVl b4 x.way :: zoB b1 b2 b3 f a c)) 0 from rfl).base_mem _ (.head _)) rfl ?_
  simp (disch := omega) only [push_cast, Nat.reduceEqDiff, h2, h3, h4, hI]
  rw [V_cond]
  simp (disch := omega) only [push_cast, Nat.reduceEqDiff, h2, h3, h4, hI]
  refine condX_d (fun hlt => ?_) (fun hge => ?_)
  rotate_left
  · obtain rfl : i = f.sub.length := by omega
    have hBn := hBn a
    have hS0 : ZaS wb (zoB b1 b2 b3 f a c) x its b4 (zeroD d f) (.bool false) (.bool false) (.bool false) (x.own ++ (ownR its ++ oVl b4 x.way :: zoB b1 b2 b3 f a c)) 0 := rfl
    simp (disch := omega) only [push_cast, Nat.reduceEqDiff, h2, h3, h4, hI]
    have hL4 : ∀ x y z u : Obj, ∀ p ∈ [(b2, x), (b4, y), (b3, z), (b1, u)], wb.heap.size ≤ p.1 := fun x y z u p hp => by
      simp only [List.mem_cons, List.mem_nil_iff, or_false] at hp
      rcases hp with rfl | rfl | rfl | rfl <;> assumption
    refine loadX_agg Shp.eq (hS0.v_mem (by omega)) rfl rfl ?_
    simp (disch := omega) only [push_cast, Nat.reduceEqDiff, h2, h4]
    refine storeX_weak (fun w hw => hw.perm (zo_perm _ _ _ _ _ _)) (storeX 0 rfl Siz.eq rfl rfl (by simp [Value.oneCell', Rw.way]) (by simp) ?_)
    simp (disch := omega) only [push_cast, Nat.reduceEqDiff, h2, h4]
    refine loadX_agg Shp.eq mem0 rfl rfl ?_
    simp (disch := omega) only [push_cast, Nat.reduceEqDiff]
    exact fun w' hw' => ⟨_, ownR (x :: its), rfl, (by rw [ownR_cons]; exact hw'.left (A := [_, _, _, _]) (hL4 _ _ _ _)), (by
        rw [ownR_cons]
        intro p hp
        rcases List.mem_append.1 hp with hp | hp
        · exact hxn p hp
        · exact hin p hp), x :: its, x.at_, x.c, by rw [zero_17 hl h17]; exact way_cells (by rw [hxl, List.length_map]), rfl, by rw [zero_17 hl h17]; exact zeV_list (by simp) hxok (by rw [hxl, List.length_map]) (by rw [List.take_length] at hzk; exact hzk)⟩
  obtain ⟨g, hg⟩ : ∃ g, f.sub[i]? = some g := ⟨_, List.getElem?_eq_getElem (by omega)⟩
  obtain ⟨b, off, ga, gc, rfl, hb, hat, hG⟩ := hA.get hg
  have hg2 := hok.2 g (List.mem_of_getElem? hg)
  have hBn := hBn (some ⟨b, off, none⟩)
  have hS0 : ZaS wb (zoB b1 b2 b3 f (some ⟨b, off, none⟩) c) x its b4 (zeroD d g) (.bool false) (.bool false) (.bool false) (x.own ++ (ownR its ++ oVl b4 x.way :: zoB b1 b2 b3 f (some ⟨b, off, none⟩) c)) 0 := rfl
  have hsubB : ∀ p ∈ [oTy b3 f.k f.wd f.id f.ix (some ⟨b, off, none⟩) f.sub.length c], p ∈ zoB b1 b2 b3 f (some ⟨b, off, none⟩) c := fun p hp => by rw [List.mem_singleton.1 hp]; exact .head _
  simp (disch := omega) only [push_cast, Nat.reduceEqDiff, h2, h3, h4, hI]
  rw [V_block]
  simp (disch := omega) only [push_cast, Nat.reduceEqDiff, h2, h3, h4, hI]
  refine freeIT [0, 2, 3, 4, 5, 6] [1, 7, 8, 9, 10, 11] [(1, []), (7, []), (8, [7]), (9, [1, 8]), (10, [9]), (11, [9, 10])] [oTy b3 f.k f.wd f.id f.ix (some ⟨b, off, none⟩) f.sub.length c] (ZaR wb (zoB b1 b2 b3 f (some ⟨b, off, none⟩) c) x its b4 (zeroD d g) (fun e => e 2 = .pointer (some ⟨b2, 0, none⟩) ∧ e 3 = .pointer (some ⟨b3, 0, none⟩) ∧ e 4 = .pointer (some ⟨b4, 0, none⟩) ∧ e 6 = i64 i ∧ e 74 = .pointer (some ⟨b4, 3, none⟩) ∧ e 80 = .agg (g.cells ga gc).toArray) 75 81 82 83 84 1 7 8 9 10 11) (by kernel_rfl) mixed (by kernel_rfl) (by kernel_rfl) (fun D e ds L h => stab_mem (fun p hp => h.o.base_mem p (hsubB p hp)) (by simp) (h.o.new hBn hxn hin hb4)) ?_ ?_ (stab_mem (fun p hp => hS0.base_mem p (hsubB p hp)) (by simp) (hS0.new hBn hxn hin hb4)) ?_
  · intro p hp D e ds L hD hdep I
    obtain ⟨h2, h3, h4, hI, eA, eC⟩ := I.he
    obtain rfl := I.hds
    have hnew := I.o.new hBn hxn hin hb4
    simp only [List.mem_cons, List.mem_nil_iff, or_false] at hp
    rcases hp with rfl | rfl | rfl | rfl | rfl | rfl
    all_goals simp only [List.mem_cons, List.mem_nil_iff, or_false, forall_eq_or_imp, forall_eq, false_implies, implies_true] at hD hdep
    · simp (disch := omega) only [push_cast, Nat.reduceEqDiff, eA]
      refine ldOne Shp.eq (I.v_mem (I.off1 hD)) rfl ?_
      simp (disch := omega) only [push_cast, Nat.reduceEqDiff]
      exact ⟨_, fun w hw => hw, I.s1 hD ⟨by simpa [upd] using h2, by simpa [upd] using h3, by simpa [upd] using h4, by simpa [upd] using hI, by simpa [upd] using eA, by simpa [upd] using eC⟩ (by decide) (by decide) (by decide)⟩
    · simp (disch := omega) only [push_cast, Nat.reduceEqDiff, eC]
      refine callV en_38 (callX_new (fun w' hw' => hT w' lo _ g ga gc (Nat.le_trans hlo hw'.size) hg2 (hG.sy hlo hw' hnew)) (fun u M hM hMn hu => ?_))
      obtain ⟨its2, a2, c2, rfl, rfl, hZ⟩ := hu
      simp (disch := omega) only [push_cast, Nat.reduceEqDiff]
      exact ⟨_, fun w hw => hw, I.s6 hD hZ hM ⟨by simpa [upd] using h2, by simpa [upd] using h3, by simpa [upd] using h4, by simpa [upd] using hI, by simpa [upd] using eA, by simpa [upd] using eC⟩ (by decide) (by decide) (by decide)⟩
    · obtain ⟨its2, a2, c2, hZ, hi2, e6, hL7⟩ := I.call hdep hD
      simp (disch := omega) only [push_cast, Nat.reduceEqDiff, e6, Vl.cells]
      refine bs_27_1 (newI fun b7 hb7 hn7 => ?_)
      simp (disch := omega) only [push_cast, Nat.reduceEqDiff]
      exact ⟨_, fun w hw => hw, I.s7 hdep hD hZ hi2 hb7 hL7 ⟨by simpa [upd] using h2, by simpa [upd] using h3, by simpa [upd] using h4, by simpa [upd] using hI, by simpa [upd] using eA, by simpa [upd] using eC⟩ (by decide) (by decide) (by decide)⟩
    · have e1 := I.d1 hdep.1
      simp (disch := omega) only [push_cast, Nat.reduceEqDiff, e1]
      refine ZaS.app (I.row hdep.2 hD) hxok hxn hsm (fun x' L' L'' hsub hz => ?_)
      simp (disch := omega) only [push_cast, Nat.reduceEqDiff]
      exact ⟨L'', hsub, I.s8 hdep.1 hdep.2 hD hz ⟨by simpa [upd] using h2, by simpa [upd] using h3, by simpa [upd] using h4, by simpa [upd] using hI, by simpa [upd] using eA, by simpa [upd] using eC⟩ (by decide) (by decide) (by decide)⟩
    · simp (disch := omega) only [push_cast, Nat.reduceEqDiff, h4]
      exact ⟨_, fun w hw => hw, I.s9 ⟨by simpa [upd] using h2, by simpa [upd] using h3, by simpa [upd] using h4, by simpa [upd] using hI, by simpa [upd] using eA, by simpa [upd] using eC⟩ (by decide) (by decide)⟩
    · obtain ⟨its2, a2, c2, x', hZ, hi2, r3, r4, r5, r6, e8, rfl⟩ := I.app hdep.1 hD
      have eS := I.d9 hdep.2
      simp (disch := omega) only [push_cast, Nat.reduceEqDiff, eS, e8, oVl]
      refine storeX 0 rfl Siz.eq rfl rfl (by simp [Value.oneCell', Rw.way]) (by simp) ?_
      simp (disch := omega) only [push_cast, Nat.reduceEqDiff]
      exact ⟨_, fun w hw => hw, I.s10 hdep.1 hZ hi2 r3 r4 r5 r6 (by decide) (by decide)⟩
  · intro D e ds L hD I
    obtain ⟨h2, h3, h4, hI, eA, eC⟩ := I.he
    obtain rfl := I.hds
    obtain ⟨its2, a2, c2, x', hZ, hi2, r3, r4, r5, r6, rfl⟩ := I.done (hD 11 (by simp))
    simp (disch := omega) only [push_cast, Nat.reduceEqDiff, h2, h3, h4, hI]
    exact ⟨i + 1, _, fun w hw => hw.perm (za_perm _ _ _ _ _), ⟨rfl, rfl, by omega, h2, h3, h4, by simp only [upd]; rfl, x', its ++ its2, r3, by rw [r4, hxl, List.length_map, List.length_take]; omega, by rw [r5, List.take_add_one, hg, Option.toList_some, List.map_append]; exact ZeK.append (ZeK.single hZ) hzk, r6, (fun p hp => by
    rw [ownR_append] at hp
    rcases List.mem_append.1 hp with hp | hp
    · exact hin p hp
    · exact hi2 p hp), by rw [ownR_append]⟩, by omega⟩
  simp (disch := omega) only [push_cast, Nat.reduceEqDiff, h2, h3, h4, hI]
  refine ldOne Shp.eq (.head _) rfl ?_
  simp (disch := omega) only [push_cast, Nat.reduceEqDiff, h2, h3, h4, hI]
  refine ldAggF Shp.eq hat rfl (out_of (fun p hp => Nat.lt_of_lt_of_le (Nat.lt_of_lt_of_le hb hlo) (hBn p (hsubB p hp)))) ?_
  simp (disch := omega) only [push_cast, Nat.reduceEqDiff, h2, h3, h4, hI, Fld.cells]
  exact ⟨rfl, ⟨h2, h3, h4, hI, rfl, rfl⟩, (fun h => by simp at h), (by simp), rfl, (fun h => by simp at h)⟩
theorem zeroOf_walk : ∀ d, ZoOK d
  | 0 => fun w lo ind f a c hlo hok => absurd hok id
  | d + 1 => zeroOf_step d (zeroOf_walk d)
end Go.Proofs.YtjkogfiidhjpcaaDoor
/- YtjkogfiidhjpcaaDoor: walks, part 134: strings.Repeat of a zero byte. -/
namespace Go.Proofs.YtjkogfiidhjpcaaDoor
open Go Go.K
set_option maxRecDepth 100000
set_option linter.unusedVariables false
set_option linter.unusedSimpArgs false
set_option maxHeartbeats 4000000
def laysRep_ren : Go.Shelf.Ren := ⟨fun | 105 => 64 | 212 => 81 | 99 => 82 | 165 => 83 | 166 => 84 | 170 => 85 | 169 => 86 | 263 => 95 | 264 => 96 | 206 => 97 | 240 => 98 | 241 => 99 | 276 => 111 | 277 => 112 | n => n, fun | 9 => 9 | 3 => 3 | 4 => 4 | 20 => 20 | 0 => 0 | 46 => 104 | 109 => 106 | 5 => 5 | 72 => 111 | 76 => 115 | 51 => 141 | 146 => 142 | 53 => 36 | 148 => 144 | 70 => 109 | 37 => 91 | 75 => 114 | 127 => 146 | 164 => 152 | 80 => 118 | n => n, fun | n => n⟩
theorem laysRep : Go.Proofs.Lays.n105 Tryd.prog laysRep_ren := {
  mixed := by kernel_rfl
  f99 := Tryd.func82.trans (congrArg some (by kernel_rfl))
  f105 := Tryd.func64.trans (congrArg some (by kernel_rfl))
  f165 := Tryd.func83.trans (congrArg some (by kernel_rfl))
  f166 := Tryd.func84.trans (congrArg some (by kernel_rfl))
  f169 := Tryd.func86.trans (congrArg some (by kernel_rfl))
  f170 := Tryd.func85.trans (congrArg some (by kernel_rfl))
  f206 := Tryd.func97.trans (congrArg some (by kernel_rfl))
  f212 := Tryd.func81.trans (congrArg some (by kernel_rfl))
  f240 := Tryd.func98.trans (congrArg some (by kernel_rfl))
  f241 := Tryd.func99.trans (congrArg some (by kernel_rfl))
  f263 := Tryd.func95.trans (congrArg some (by kernel_rfl))
  f264 := Tryd.func96.trans (congrArg some (by kernel_rfl))
  f276 := Tryd.func111.trans (congrArg some (by kernel_rfl))
  f277 := Tryd.func112.trans (congrArg some (by kernel_rfl))
  t0 := Tryd.underlying0
  a0 := Tryd.isAgg0
  z0 := Tryd.sizeOf0
  v0 := Tryd.zeroValue0
  t3 := Tryd.underlying3
  a3 := Tryd.isAgg3
  z3 := Tryd.sizeOf3
  v3 := Tryd.zeroValue3
  t4 := Tryd.underlying4
  a4 := Tryd.isAgg4
  z4 := Tryd.sizeOf4
  v4 := Tryd.zeroValue4
  t5 := Tryd.underlying5
  a5 := Tryd.isAgg5
  z5 := Tryd.sizeOf5
  v5 := Tryd.zeroValue5
  t9 := Tryd.underlying9
  a9 := Tryd.isAgg9
  z9 := Tryd.sizeOf9
  v9 := Tryd.zeroValue9
  t20 := Tryd.underlying20
  a20 := Tryd.isAgg20
  z20 := Tryd.sizeOf20
  v20 := Tryd.zeroValue20
  t37 := Tryd.underlying91
  a37 := Tryd.isAgg91
  z37 := Tryd.sizeOf91
  v37 := Tryd.zeroValue91
  t46 := Tryd.underlying104
  a46 := Tryd.isAgg104
  z46 := Tryd.sizeOf104
  v46 := Tryd.zeroValue104
  t51 := Tryd.underlying141
  a51 := Tryd.isAgg141
  z51 := Tryd.sizeOf141
  v51 := Tryd.zeroValue141
  t53 := Tryd.underlying36
  a53 := Tryd.isAgg36
  z53 := Tryd.sizeOf36
  v53 := Tryd.zeroValue36
  t70 := Tryd.underlying109
  a70 := Tryd.isAgg109
  z70 := Tryd.sizeOf109
  v70 := Tryd.zeroValue109
  t72 := Tryd.underlying111
  a72 := Tryd.isAgg111
  z72 := Tryd.sizeOf111
  v72 := Tryd.zeroValue111
  t75 := Tryd.underlying114
  a75 := Tryd.isAgg114
  z75 := Tryd.sizeOf114
  v75 := Tryd.zeroValue114
  t76 := Tryd.underlying115
  a76 := Tryd.isAgg115
  z76 := Tryd.sizeOf115
  v76 := Tryd.zeroValue115
  t109 := Tryd.underlying106
  a109 := Tryd.isAgg106
  z109 := Tryd.sizeOf106
  v109 := Tryd.zeroValue106
  t127 := Tryd.underlying146
  a127 := Tryd.isAgg146
  z127 := Tryd.sizeOf146
  v127 := Tryd.zeroValue146
  t146 := Tryd.underlying142
  a146 := Tryd.isAgg142
  z146 := Tryd.sizeOf142
  v146 := Tryd.zeroValue142
  t148 := Tryd.underlying144
  a148 := Tryd.isAgg144
  z148 := Tryd.sizeOf144
  v148 := Tryd.zeroValue144
  t164 := Tryd.underlying152
  a164 := Tryd.isAgg152
  z164 := Tryd.sizeOf152
  v164 := Tryd.zeroValue152 }

theorem laysRepX : Go.Proofs.Builder.Extra Tryd.prog laysRep_ren := {
  sizeBuilder := by kernel_rfl
  liesBuilder := by kernel_rfl
  t5 := Tryd.underlying5
  a5 := Tryd.isAgg5
  z5 := Tryd.sizeOf5
  v5 := Tryd.zeroValue5
  infoByte := by kernel_rfl
  cellsByte := by kernel_rfl
  sizeByte := by kernel_rfl
  neB5 := by decide }
theorem repeat_zero : ∀ n : Nat, Lib.repeatL [(0 : UInt8)] n = List.replicate n 0
  | 0 => rfl
  | n + 1 => by rw [List.replicate_succ, ← repeat_zero n]; rfl
theorem repeat_walk (w : World) (n : Int) (h0 : 0 ≤ n) (h1 : n ≤ 1000) : Calls Tryd.prog 64 #[str [0], i64 n] w (Rets w (Is (str (List.replicate n.toNat 0)))) := by
  obtain ⟨c, rfl⟩ : ∃ c : Nat, n = (c : Int) := ⟨n.toNat, by omega⟩
  have h := Any.strings_Repeat laysRep laysRepX ⟨#[0]⟩ c w (by omega) (by simp [ByteArray.size]; omega)
  refine h.mono ?_
  rintro e w' ⟨rfl, hb⟩
  refine ⟨_, rfl, Sy.of_below hb, ?_⟩
  rw [repeat_zero]
  rfl
end Go.Proofs.YtjkogfiidhjpcaaDoor
