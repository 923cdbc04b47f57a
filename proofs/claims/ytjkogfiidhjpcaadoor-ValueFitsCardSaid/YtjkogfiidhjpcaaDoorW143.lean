/- YtjkogfiidhjpcaaDoor: walks, part 143: Fits and Zero of any field and value are the document's; what is handed in stays; the lists of zero values are their owner's. -/
import Derived.Test.YtjkogfiidhjpcaaDoorW142
import Derived.Test.YtjkogfiidhjpcaaDoorW107
namespace Go.Proofs.YtjkogfiidhjpcaaDoor
open Go Go.K
set_option maxRecDepth 100000
set_option linter.unusedVariables false
set_option linter.unusedSimpArgs false
set_option maxHeartbeats 4000000
theorem VAt.weakenA {w : World} {lo lo' : Nat} {v : Vl} {a : Option Addr} {c : Nat} (h : VAt w lo v a c) (hle : lo ≤ lo') : VAt w lo' v a c := ⟨h.hr.weaken hle, h.hc, h.hc2, h.ht, h.hn⟩
theorem wL_len16 : ∀ (l : List Vl), l.length * 16 ≤ wL l
  | [] => by rw [wL]; simp
  | v :: l => by
    have := wL_len16 l
    rw [wL, wV_eq, List.length_cons]
    omega
mutual
theorem ZeV.rows : ∀ (v : Vl) {its : List Rw} {a : Option Addr} {c : Nat}, ZeV v its a c → ∀ x ∈ its, x.OK ∧ x.n * 16 ≤ wV v
  | .mk nu num tx ls, its, a, c, h, x, hx => by
    rw [ZeV] at h
    obtain ⟨_, _, y, its', rfl, h1, h2, _, _, h5⟩ := h
    have hl := wL_len16 ls
    rw [wV]
    rcases List.mem_cons.1 hx with rfl | hx
    · exact ⟨h1, by omega⟩
    · have := ZeK.rows ls h5 x hx
      exact ⟨this.1, by omega⟩
theorem ZeK.rows : ∀ (ls : List Vl) {its : List Rw} {cs : List Value}, ZeK ls its cs → ∀ x ∈ its, x.OK ∧ x.n * 16 ≤ wL ls
  | [], its, cs, h, x, hx => by
    rw [ZeK] at h
    rw [h.1] at hx
    cases hx
  | v :: l, its, cs, h, x, hx => by
    rw [ZeK] at h
    obtain ⟨its1, its2, a, c, cs', rfl, rfl, h1, h2⟩ := h
    rw [wL]
    rcases List.mem_append.1 hx with hx | hx
    · have := ZeV.rows v h1 x hx
      exact ⟨this.1, by omega⟩
    · have := ZeK.rows l h2 x hx
      exact ⟨this.1, by omega⟩
end
theorem zeroP_wV (f : Fld) : wV (zeroP f).1 ≤ 4194304 := by
  unfold zeroP
  split
  · rename_i h
    split
    · simp [wV, wL]
    · rename_i h2
      have := zw_wV 64 (may_okZ h) (by omega)
      show wV (zeroD 64 f) ≤ 4194304
      omega
  · simp [wV, wL]
theorem zeroP_fits {f : Fld} (h : (zeroP f).2 = 0) : fitsP f (zeroP f).1 = 0 := by
  unfold zeroP at h ⊢
  split
  · rename_i hm
    rw [if_pos hm] at h
    split
    · rename_i h2
      rw [if_pos h2] at h
      cases h
    · rename_i h2
      show fitsP f (zeroD 64 f) = 0
      unfold fitsP
      rw [if_pos hm, if_pos (zero_good hm (by omega))]
  · rename_i hm
    rw [if_neg hm] at h
    cases h
abbrev fB2 : Fld := .mk [97] false 2 0 0 0 []
abbrev vB2 : Vl := .mk false 2 [] []
theorem fitsP_B2 : fitsP fB2 vB2 = 7 := by
  unfold fitsP
  rw [show mayD fB2 = true by decide, if_pos rfl, if_neg]
  unfold goodD
  rw [fitD]
  simp [Vl.ls, Vl.nu, Vl.tx, Vl.num, Fld.k]
/-- What own answers: the field lies anew in blocks of its own, or it is the field itself. -/
def OwnP (f : Fld) (a : Option Addr) (c : Nat) (Mg : Own) (ga : Option Addr) (gc : Nat) : Prop := (fewP f = true ∧ OwF f Mg ga gc) ∨ (fewP f = false ∧ ga = a ∧ gc = c ∧ Mg = [])
theorem OwnP.at_ {wb w : World} {lo : Nat} {f : Fld} {a ga : Option Addr} {c gc : Nat} {Mg L : Own} (h : OwnP f a c Mg ga gc) (hlo : lo ≤ wb.heap.size) (hA : FlAt wb lo f a c) (hw : Sy wb L w) (hM : ∀ p ∈ Mg, p ∈ L) (hL : ∀ p ∈ L, wb.heap.size ≤ p.1) : FlAt w w.heap.size f ga gc := by
  rcases h with ⟨_, h⟩ | ⟨_, rfl, rfl, rfl⟩
  · exact ⟨h.rd hw hM, h.le.1, h.le.2⟩
  · have h2 := hA.sy hlo hw hL
    exact ⟨h2.hr.weaken (Nat.le_trans hlo hw.size), h2.hc, h2.hc2⟩
abbrev vCs (v : Vl) (a : Option Addr) (c : Nat) : Obj := Obj.cells #[.bool v.nu, i64 v.num, str v.tx, .slice a v.ls.length c] 29 (0, 0)
abbrev fCs (f : Fld) (a : Option Addr) (c : Nat) : Obj := Obj.cells #[str f.nm, .bool f.nl, i64 f.k, i64 f.wd, i64 f.id, i64 f.ix, .slice a f.sub.length c] 26 (0, 0)
/-- What is known when the zero values have been looked at. -/
structure VfI (w0 : World) (L0 : Own) (f : Fld) (b2 b8 b10 b13 b15 b17 : Nat) (wb : World) (e : Env) (ds : List Deferred) (L : Own) : Prop where
  hw : wb = w0
  hds : ds = []
  o : L = L0
  h2 : e 2 = .pointer (some ⟨b2, 0, none⟩)
  h8 : e 8 = .pointer (some ⟨b8, 0, none⟩)
  h9 : e 9 = .bool (fewP f)
  h10 : e 10 = .pointer (some ⟨b10, 0, none⟩)
  h13 : e 13 = .pointer (some ⟨b13, 0, none⟩)
  h14 : e 14 = i64 (zeroP f).2
  h15 : e 15 = .pointer (some ⟨b15, 0, none⟩)
  h17 : e 17 = .pointer (some ⟨b17, 0, none⟩)
theorem valueFits_walk (w : World) (hs : SaysAt w) (hTb : TabsAt w) (lo : Nat) (hlo : lo ≤ w.heap.size) (f : Fld) (v : Vl) (a va : Option Addr) (c vc : Nat) (hA : FlAt w lo f a c) (hfn : f.nm.length ≤ 9223372036854775807) (hX : VAt w lo v va vc) :
    Calls Tryd.prog 5 #[.agg (f.cells a c).toArray, .agg (v.cells va vc).toArray] w (Rets w (Is (.bool true))) := by
  refine enterT (args := [.agg (f.cells a c).toArray, .agg (v.cells va vc).toArray]) Tryd.func5 rfl Tryd.ntmps5 (congrArg Array.toList Tryd.results5) (by kernel_rfl) (by simp) (Sy.refl w) ?_
  simp (disch := omega) only [push_cast, Nat.reduceEqDiff, Fld.cells, Vl.cells]
  refine newI (fun b2 hb2 hn2 => ?_)
  simp (disch := omega) only [push_cast, Nat.reduceEqDiff, Fld.cells, Vl.cells]
  refine newI (fun b3 hb3 hn3 => ?_)
  simp (disch := omega) only [push_cast, Nat.reduceEqDiff, Fld.cells, Vl.cells]
  have hL : ∀ x y : Obj, ∀ p ∈ [(b3, x), (b2, y)], w.heap.size ≤ p.1 := fun x y p hp => by
    simp only [List.mem_cons, List.mem_nil_iff, or_false] at hp
    rcases hp with rfl | rfl
    · exact hb3
    · exact hb2
  refine callV en_16 (callX_is (fun w' hw' => fits_rung w' (hs.mono hw' (hL _ _)) lo (hTb.mono hw' (hL _ _)) (Nat.le_trans hlo hw'.size) fB2 vB2 none none 0 0 ⟨.nil _, Nat.le_refl _, by omega⟩ (by simp [Fld.nm]) ⟨.nil _, Nat.le_refl _, by omega, by simp [Vl.tx], by simp [Vl.num]⟩) ?_)
  rw [fitsP_B2]
  simp (disch := omega) only [push_cast, Nat.reduceEqDiff]
  rw [V_cond]
  simp (disch := omega) only [push_cast, Nat.reduceEqDiff]
  refine condX_d (fun h => (by first | exact absurd rfl h | exact absurd trivial h | omega)) (fun _ => ?_)
  simp (disch := omega) only [push_cast, Nat.reduceEqDiff]
  refine loadX_agg Shp.eq mem1 rfl rfl ?_
  simp (disch := omega) only [push_cast, Nat.reduceEqDiff]
  refine loadX_agg Shp.eq mem0 rfl rfl ?_
  simp (disch := omega) only [push_cast, Nat.reduceEqDiff]
  refine callV en_17 (callX_is (fun w' hw' => fitsRef_walk w' lo (Nat.le_trans hlo hw'.size) f v a va c vc (hA.sy hlo hw' (hL _ _)) hfn (hX.sy hlo hw' (hL _ _))) ?_)
  simp (disch := omega) only [push_cast, Nat.reduceEqDiff]
  refine loadX_agg Shp.eq mem0 rfl rfl ?_
  simp (disch := omega) only [push_cast, Nat.reduceEqDiff]
  refine callV en_8 (callX_is (fun w' hw' => heavy_walk w' lo (Nat.le_trans hlo hw'.size) v va vc (hX.sy hlo hw' (hL _ _))) ?_)
  simp (disch := omega) only [push_cast, Nat.reduceEqDiff]
  rw [V_cond]
  simp (disch := omega) only [push_cast, Nat.reduceEqDiff]
  rcases hhv : heavyD v with _ | _
  rotate_left
  · refine condX_b (fun _ => ?_) (fun h => by cases h)
    simp (disch := omega) only [push_cast, Nat.reduceEqDiff]
    refine loadX_agg Shp.eq mem1 rfl rfl ?_
    simp (disch := omega) only [push_cast, Nat.reduceEqDiff]
    refine loadX_agg Shp.eq mem0 rfl rfl ?_
    simp (disch := omega) only [push_cast, Nat.reduceEqDiff]
    refine callV en_16 (callX_is (fun w' hw' => fits_rung w' (hs.mono hw' (hL _ _)) lo (hTb.mono hw' (hL _ _)) (Nat.le_trans hlo hw'.size) f v a va c vc (hA.sy hlo hw' (hL _ _)) hfn (hX.sy hlo hw' (hL _ _))) ?_)
    simp (disch := omega) only [push_cast, Nat.reduceEqDiff]
    exact finIs (hL _ _) (by simp)
  refine condX_b (fun h => by cases h) (fun _ => ?_)
  have wv : wV v ≤ 2147483647 := by have := of_decide_eq_false hhv; omega
  simp (disch := omega) only [push_cast, Nat.reduceEqDiff]
  refine loadX_agg Shp.eq mem1 rfl rfl ?_
  simp (disch := omega) only [push_cast, Nat.reduceEqDiff]
  refine callV en_18 (callX_newR (fun w' hw' => own_walk w' lo (Nat.le_trans hlo hw'.size) f a c (hA.sy hlo hw' (hL _ _)) hfn) (fun u Mg hMg hMgn hu => ?_))
  obtain ⟨ga, gc, rfl, hOw⟩ := hu
  have hOw : OwnP f a c Mg ga gc := hOw
  simp (disch := omega) only [push_cast, Nat.reduceEqDiff, Fld.cells]
  refine newI (fun b8 hb8 hn8 => ?_)
  simp (disch := omega) only [push_cast, Nat.reduceEqDiff]
  refine storeX 0 rfl Siz.eq rfl rfl (by simp [Value.oneCell']) (by simp) ?_
  simp (disch := omega) only [push_cast, Nat.reduceEqDiff]
  have hL1 : ∀ x y z : Obj, ∀ p ∈ (b8, x) :: (b3, y) :: (b2, z) :: Mg, w.heap.size ≤ p.1 := fun x y z p hp => by
    simp only [List.mem_cons] at hp
    rcases hp with rfl | rfl | rfl | hp
    · exact hb8
    · exact hb3
    · exact hb2
    · exact hMg p hp
  refine loadX_agg Shp.eq mem1 rfl rfl ?_
  simp (disch := omega) only [push_cast, Nat.reduceEqDiff]
  refine callV en_9 (callX_newR (fun w' hw' => twin_walk w' lo v va vc (Nat.le_trans hlo hw'.size) (hX.sy hlo hw' (hL1 _ _ _)) wv) (fun u M1 hM1 hMn1 hu => ?_))
  obtain ⟨ta, tc, rfl, hO1⟩ := hu
  simp (disch := omega) only [push_cast, Nat.reduceEqDiff, Vl.cells]
  refine newI (fun b10 hb10 hn10 => ?_)
  simp (disch := omega) only [push_cast, Nat.reduceEqDiff]
  refine storeX 0 rfl Siz.eq rfl rfl (by simp [Value.oneCell']) (by simp) ?_
  simp (disch := omega) only [push_cast, Nat.reduceEqDiff]
  have hL2 : ∀ (x y z u : Obj) (N : Own), (∀ p ∈ N, w.heap.size ≤ p.1) → ∀ p ∈ (b10, x) :: (b8, y) :: (b3, z) :: (b2, u) :: ((Mg ++ M1) ++ N), w.heap.size ≤ p.1 := fun x y z u N hN p hp => by
    simp only [List.mem_cons, List.mem_append] at hp
    rcases hp with rfl | rfl | rfl | rfl | (hp | hp) | hp
    · exact hb10
    · exact hb8
    · exact hb3
    · exact hb2
    · exact hMg p hp
    · exact hM1 p hp
    · exact hN p hp
  have hL20 : ∀ (x y z u : Obj), ∀ p ∈ (b10, x) :: (b8, y) :: (b3, z) :: (b2, u) :: (Mg ++ M1), w.heap.size ≤ p.1 := fun x y z u p hp => hL2 x y z u [] (by simp) p (by rw [List.append_nil]; exact hp)
  refine loadX_agg Shp.eq mem1 rfl rfl ?_
  simp (disch := omega) only [push_cast, Nat.reduceEqDiff]
  refine loadX_agg Shp.eq mem0 rfl rfl ?_
  simp (disch := omega) only [push_cast, Nat.reduceEqDiff]
  refine callV en_16 (callX_is (fun w' hw' => fits_rung w' (hs.mono hw' (hL20 _ _ _ _)) w'.heap.size (hTb.mono hw' (hL20 _ _ _ _)) (Nat.le_refl _) f v ga ta gc tc (hOw.at_ hlo hA hw' (fun p hp => by simp [hp]) (hL20 _ _ _ _)) hfn (OwV.at_ hw' v hO1 (fun p hp => by simp [hp]))) ?_)
  simp (disch := omega) only [push_cast, Nat.reduceEqDiff]
  refine loadX_agg Shp.eq mem0 rfl rfl ?_
  simp (disch := omega) only [push_cast, Nat.reduceEqDiff]
  refine loadX_agg Shp.eq mem2 rfl rfl ?_
  simp (disch := omega) only [push_cast, Nat.reduceEqDiff]
  refine callV en_14 (callX_is (fun w' hw' => stays_walk w' w'.heap.size M1 v ta va tc vc (HoldsK.of_sy hw' (fun p hp => by simp [hp])) hO1 (Nat.le_refl _) ((hX.sy hlo hw' (hL20 _ _ _ _)).weakenA (Nat.le_trans hlo hw'.size))) ?_)
  simp (disch := omega) only [push_cast, Nat.reduceEqDiff]
  refine loadX_agg Shp.eq mem3 rfl rfl ?_
  simp (disch := omega) only [push_cast, Nat.reduceEqDiff]
  refine callV en_19 (callX_newR (fun w' hw' => zeroR_walk w' lo (Nat.le_trans hlo hw'.size) f a c (hA.sy hlo hw' (hL20 _ _ _ _)) hfn) (fun u Mx hMx hMxn hu => ?_))
  obtain ⟨itx, xa, xc, rfl, rfl, hZx⟩ := hu
  simp (disch := omega) only [push_cast, Nat.reduceEqDiff, Vl.cells]
  refine newI (fun b13 hb13 hn13 => ?_)
  simp (disch := omega) only [push_cast, Nat.reduceEqDiff]
  refine storeX 0 rfl Siz.eq rfl rfl (by simp [Value.oneCell']) (by simp) ?_
  simp (disch := omega) only [push_cast, Nat.reduceEqDiff]
  have hL3 : ∀ (o x y z u : Obj) (N : Own), (∀ p ∈ N, w.heap.size ≤ p.1) → ∀ p ∈ (b13, o) :: (b10, x) :: (b8, y) :: (b3, z) :: (b2, u) :: (((Mg ++ M1) ++ ownR itx) ++ N), w.heap.size ≤ p.1 := fun o x y z u N hN p hp => by
    rcases List.mem_cons.1 hp with rfl | hp
    · exact hb13
    · rw [List.append_assoc (Mg ++ M1)] at hp
      refine hL2 x y z u (ownR itx ++ N) (fun p hp => ?_) p hp
      rcases List.mem_append.1 hp with hp | hp
      · exact hMx p hp
      · exact hN p hp
  have hL30 : ∀ (o x y z u : Obj), ∀ p ∈ (b13, o) :: (b10, x) :: (b8, y) :: (b3, z) :: (b2, u) :: ((Mg ++ M1) ++ ownR itx), w.heap.size ≤ p.1 := fun o x y z u p hp => hL3 o x y z u [] (by simp) p (by rw [List.append_nil]; exact hp)
  refine loadX_agg Shp.eq mem2 rfl rfl ?_
  simp (disch := omega) only [push_cast, Nat.reduceEqDiff]
  refine callV en_20 (callX_newR (fun w' hw' => zeroS_walk w' (hs.mono hw' (hL30 _ _ _ _ _)) w'.heap.size (Nat.le_refl _) f ga gc (hOw.at_ hlo hA hw' (fun p hp => by simp [hp]) (hL30 _ _ _ _ _)) hfn) (fun u My hMy hMyn hu => ?_))
  obtain ⟨ity, ya, yc, rfl, rfl, hZy⟩ := hu
  simp (disch := omega) only [push_cast, Nat.reduceEqDiff, Vl.cells]
  refine newI (fun b15 hb15 hn15 => ?_)
  simp (disch := omega) only [push_cast, Nat.reduceEqDiff]
  refine storeX 0 rfl Siz.eq rfl rfl (by simp [Value.oneCell']) (by simp) ?_
  simp (disch := omega) only [push_cast, Nat.reduceEqDiff]
  have hL4 : ∀ (o1 o x y z u : Obj), ∀ p ∈ (b15, o1) :: (b13, o) :: (b10, x) :: (b8, y) :: (b3, z) :: (b2, u) :: (((Mg ++ M1) ++ ownR itx) ++ ownR ity), w.heap.size ≤ p.1 := fun o1 o x y z u p hp => by
    rcases List.mem_cons.1 hp with rfl | hp
    · exact hb15
    · exact hL3 o x y z u _ hMy p hp
  refine loadX_agg Shp.eq mem3 rfl rfl ?_
  simp (disch := omega) only [push_cast, Nat.reduceEqDiff]
  refine callV en_20 (callX_newR (fun w' hw' => zeroS_walk w' (hs.mono hw' (hL4 _ _ _ _ _ _)) w'.heap.size (Nat.le_refl _) f ga gc (hOw.at_ hlo hA hw' (fun p hp => by simp [hp]) (hL4 _ _ _ _ _ _)) hfn) (fun u Mz hMz hMzn hu => ?_))
  obtain ⟨itz, za, zc, rfl, rfl, hZz⟩ := hu
  simp (disch := omega) only [push_cast, Nat.reduceEqDiff, Vl.cells]
  refine newI (fun b17 hb17 hn17 => ?_)
  simp (disch := omega) only [push_cast, Nat.reduceEqDiff]
  refine storeX 0 rfl Siz.eq rfl rfl (by simp [Value.oneCell']) (by simp) ?_
  simp (disch := omega) only [push_cast, Nat.reduceEqDiff]
  have hT0 : (zeroP f).1.tx.length ≤ 9223372036854775807 := ((ZeV_iff _ _ _ _).1 hZx).1
  have hREST : ∀ p ∈ (b17, Obj.cells #[.bool (zeroP f).1.nu, i64 (zeroP f).1.num, str (zeroP f).1.tx, .slice za (zeroP f).1.ls.length zc] 29 (0, 0)) :: (b15, Obj.cells #[.bool (zeroP f).1.nu, i64 (zeroP f).1.num, str (zeroP f).1.tx, .slice ya (zeroP f).1.ls.length yc] 29 (0, 0)) :: (b13, Obj.cells #[.bool (zeroP f).1.nu, i64 (zeroP f).1.num, str (zeroP f).1.tx, .slice xa (zeroP f).1.ls.length xc] 29 (0, 0)) :: (b10, Obj.cells #[.bool v.nu, i64 v.num, str v.tx, .slice ta v.ls.length tc] 29 (0, 0)) :: (b8, Obj.cells #[str f.nm, .bool f.nl, i64 f.k, i64 f.wd, i64 f.id, i64 f.ix, .slice ga f.sub.length gc] 26 (0, 0)) :: (b3, Obj.cells #[.bool v.nu, i64 v.num, str v.tx, .slice va v.ls.length vc] 29 (0, 0)) :: (b2, Obj.cells #[str f.nm, .bool f.nl, i64 f.k, i64 f.wd, i64 f.id, i64 f.ix, .slice a f.sub.length c] 26 (0, 0)) :: (((Mg ++ M1) ++ ownR itx) ++ (ownR ity ++ ownR itz)), w.heap.size ≤ p.1 := fun p hp => by
    simp only [List.mem_cons, List.mem_append] at hp
    rcases hp with rfl | rfl | rfl | rfl | rfl | rfl | rfl | ((hp | hp) | hp) | hp | hp
    · exact hb17
    · exact hb15
    · exact hb13
    · exact hb10
    · exact hb8
    · exact hb3
    · exact hb2
    · exact hMg p hp
    · exact hM1 p hp
    · exact hMx p hp
    · exact hMy p hp
    · exact hMz p hp
  have hREST' : ∀ (o1 o2 : Obj), ∀ p ∈ (b17, o1) :: (b15, o2) :: (b13, vCs (zeroP f).1 xa xc) :: (b10, vCs v ta tc) :: (b8, fCs f ga gc) :: (b3, vCs v va vc) :: (b2, fCs f a c) :: ((((Mg ++ M1) ++ ownR itx) ++ ownR ity) ++ ownR itz), w.heap.size ≤ p.1 := fun o1 o2 p hp => by
    simp only [List.mem_cons, List.mem_append] at hp
    rcases hp with rfl | rfl | rfl | rfl | rfl | rfl | rfl | (((hp | hp) | hp) | hp) | hp
    · exact hb17
    · exact hb15
    · exact hb13
    · exact hb10
    · exact hb8
    · exact hb3
    · exact hb2
    · exact hMg p hp
    · exact hM1 p hp
    · exact hMx p hp
    · exact hMy p hp
    · exact hMz p hp
  have hR1 : ∀ p ∈ (b17, Obj.cells #[.bool (zeroP f).1.nu, i64 (zeroP f).1.num, str (zeroP f).1.tx, .slice za (zeroP f).1.ls.length zc] 29 (0, 0)) :: (b15, Obj.cells #[.bool (zeroP f).1.nu, i64 (zeroP f).1.num, str (zeroP f).1.tx, .slice ya (zeroP f).1.ls.length yc] 29 (0, 0)) :: (b13, Obj.cells #[.bool (zeroP f).1.nu, i64 (zeroP f).1.num, str (zeroP f).1.tx, .slice xa (zeroP f).1.ls.length xc] 29 (0, 0)) :: (b10, Obj.cells #[.bool v.nu, i64 v.num, str v.tx, .slice ta v.ls.length tc] 29 (0, 0)) :: (b8, Obj.cells #[str f.nm, .bool f.nl, i64 f.k, i64 f.wd, i64 f.id, i64 f.ix, .slice ga f.sub.length gc] 26 (0, 0)) :: (b3, Obj.cells #[.bool v.nu, i64 v.num, str v.tx, .slice va v.ls.length vc] 29 (0, 0)) :: (b2, Obj.cells #[str f.nm, .bool f.nl, i64 f.k, i64 f.wd, i64 f.id, i64 f.ix, .slice a f.sub.length c] 26 (0, 0)) :: (((Mg ++ M1) ++ ownR itx)), w.heap.size ≤ p.1 := fun p hp => hREST p (by simp only [List.mem_cons, List.mem_append] at hp ⊢; rcases hp with hp | hp | hp | hp | hp | hp | hp | hp <;> simp [hp])
  refine loadX_agg Shp.eq mem2 rfl rfl ?_
  simp (disch := omega) only [push_cast, Nat.reduceEqDiff]
  refine loadX_agg Shp.eq mem1 rfl rfl ?_
  simp (disch := omega) only [push_cast, Nat.reduceEqDiff]
  have kS := fun (L : Own) (w' : World) (hw' : Sy w L w') (its1 its2 : List Rw) (a1 a2 : Option Addr) (c1 c2 : Nat) (hZ1 : ZeV (zeroP f).1 its1 a1 c1) (hZ2 : ZeV (zeroP f).1 its2 a2 c2) (h1 : ∀ p ∈ ownR its1, p ∈ L) (h2 : ∀ p ∈ ownR its2, p ∈ L) => sameR_all _ w' w'.heap.size (zeroP f).1 (zeroP f).1 a1 a2 c1 c2 (Nat.le_refl _) (Nat.le_refl _) (TrV.at_ hw' _ (ZeV.tr _ hZ1) h1) (TrV.at_ hw' _ (ZeV.tr _ hZ2) h2)
  have hsame : sameV (zeroP f).1 (zeroP f).1 = true := (sameV_iff _ _).2 rfl
  refine callV en_11 (callX_is (fun w' hw' => kS _ w' hw' itx ity xa ya xc yc hZx hZy (fun p hp => by simp [hp]) (fun p hp => by simp [hp])) ?_)
  rw [hsame]
  simp (disch := omega) only [push_cast, Nat.reduceEqDiff]
  refine loadX_agg Shp.eq mem2 rfl rfl ?_
  simp (maxSteps := 2000000) (disch := omega) only [push_cast, Nat.reduceEqDiff]
  refine loadX_agg Shp.eq mem0 rfl rfl ?_
  simp (maxSteps := 2000000) (disch := omega) only [push_cast, Nat.reduceEqDiff]
  refine callV en_11 (callX_is (fun w' hw' => kS _ w' hw' itx itz xa za xc zc hZx hZz (fun p hp => by simp [hp]) (fun p hp => by simp [hp])) ?_)
  rw [hsame]
  simp (maxSteps := 2000000) (disch := omega) only [push_cast, Nat.reduceEqDiff, ne_eq, not_true_eq_false, decide_false]
  refine forgetG (fun e => e 2 = .pointer (some ⟨b2, 0, none⟩) ∧ e 8 = .pointer (some ⟨b8, 0, none⟩) ∧ e 9 = .bool (fewP f) ∧ e 10 = .pointer (some ⟨b10, 0, none⟩) ∧ e 13 = .pointer (some ⟨b13, 0, none⟩) ∧ e 15 = .pointer (some ⟨b15, 0, none⟩) ∧ e 17 = .pointer (some ⟨b17, 0, none⟩) ∧ e 14 = i64 (zeroP f).2 ∧ e 16 = i64 (zeroP f).2 ∧ e 18 = i64 (zeroP f).2 ∧ e 19 = .bool true ∧ e 85 = .bool (!true)) ⟨rfl, rfl, rfl, rfl, rfl, rfl, rfl, rfl, rfl, rfl, rfl, rfl⟩ ?_
  rintro e ⟨h2, h8, h9, h10, h13, h15, h17, h14, h16, h18, h19, h85⟩
  refine guardX_bf h85 (fun _ => ?_) (fun h => absurd h (by decide))
  simp (disch := omega) only [push_cast, Nat.reduceEqDiff, h2, h8, h9, h10, h13, h15, h17, h14, h16, h18, h19, Bool.not_true, ne_eq, not_true_eq_false, decide_false]
  rw [V_cond]
  simp (disch := omega) only [push_cast, Nat.reduceEqDiff, h2, h8, h9, h10, h13, h15, h17, h14]
  clear h85 h16 h18 h19
  refine cutV (VfI w ((b17, vCs (zeroP f).1 za zc) :: (b15, vCs (zeroP f).1 ya yc) :: (b13, vCs (zeroP f).1 xa xc) :: (b10, vCs v ta tc) :: (b8, fCs f ga gc) :: (b3, vCs v va vc) :: (b2, fCs f a c) :: ((((Mg ++ M1) ++ ownR itx) ++ ownR ity) ++ ownR itz)) f b2 b8 b10 b13 b15 b17) ?_ ?_
  · rw [V_cond]
    simp (disch := omega) only [push_cast, Nat.reduceEqDiff, h2, h8, h9, h10, h13, h14, h15, h17]
    refine condX_d (fun hz => ?_) (fun hz => ?_)
    · simp (disch := omega) only [push_cast, Nat.reduceEqDiff, h2, h8, h9, h10, h13, h14, h15, h17]
      refine loadX_agg Shp.eq mem4 rfl rfl ?_
      simp (disch := omega) only [push_cast, Nat.reduceEqDiff, h2, h8, h9, h10, h13, h14, h15, h17]
      refine loadX_agg Shp.eq mem1 rfl rfl ?_
      simp (disch := omega) only [push_cast, Nat.reduceEqDiff, h2, h8, h9, h10, h13, h14, h15, h17]
      refine callV en_16 (callX_is (fun w' hw' => fits_rung w' (hs.mono hw' (hREST' _ _)) w'.heap.size (hTb.mono hw' (hREST' _ _)) (Nat.le_refl _) f (zeroP f).1 ga ya gc yc (hOw.at_ hlo hA hw' (fun p hp => by simp [hp]) (hREST' _ _)) hfn (TrV.at_ hw' _ (ZeV.tr _ hZy) (fun p hp => by simp [hp]))) ?_)
      rw [zeroP_fits hz]
      simp (disch := omega) only [push_cast, Nat.reduceEqDiff, h2, h8, h9, h10, h13, h14, h15, h17]
      rw [V_cond]
      simp (disch := omega) only [push_cast, Nat.reduceEqDiff, h2, h8, h9, h10, h13, h14, h15, h17, ne_eq, not_true_eq_false, decide_false]
      exact ⟨rfl, rfl, rfl, h2, h8, h9, h10, h13, h14, h15, h17⟩
    · simp (disch := omega) only [push_cast, Nat.reduceEqDiff, h2, h8, h9, h10, h13, h14, h15, h17]
      exact ⟨rfl, rfl, rfl, h2, h8, h9, h10, h13, h14, h15, h17⟩
  clear h2 h8 h9 h10 h13 h14 h15 h17 e
  rintro wb e ds L ⟨rfl, rfl, rfl, h2, h8, h9, h10, h13, h14, h15, h17⟩
  simp (disch := omega) only [push_cast, Nat.reduceEqDiff, h2, h8, h9, h10, h13, h14, h15, h17]
  refine newI (fun b21 hb21 hn21 => ?_)
  simp (disch := omega) only [push_cast, Nat.reduceEqDiff, h2, h8, h9, h10, h13, h14, h15, h17]
  have hwz := zeroP_wV f
  have hny := ZeV.count _ hZy
  have hnz := ZeV.count _ hZz
  refine loadX_agg Shp.eq mem2 rfl rfl ?_
  simp (disch := omega) only [push_cast, Nat.reduceEqDiff, h2, h8, h9, h10, h13, h14, h15, h17]
  refine callV en_21 (callX_base (fun w' hw' => bookValue_walk wb w' b21 (.slice none 0 0) [] ((b17, vCs (zeroP f).1 za zc) :: (b15, vCs (zeroP f).1 ya yc) :: (b13, vCs (zeroP f).1 xa xc) :: (b10, vCs v ta tc) :: (b8, fCs f ga gc) :: (b3, vCs v va vc) :: (b2, fCs f a c) :: ((((Mg ++ M1) ++ ownR itx) ++ ownR ity) ++ ownR itz)) [] (zeroP f).1 ity ya yc hZy ⟨rfl, .inl ⟨rfl, rfl, rfl⟩⟩ (fun p hp => by simp [hp]) (hREST' _ _) hb21 (by simp only [List.length_nil]; omega) hw') ?_)
  rintro e' w' ⟨rfl, va1, R1, hR1, q1⟩
  refine ⟨_, _, rfl, q1, ?_⟩
  clear q1
  rw [List.nil_append] at hR1
  simp (disch := omega) only [push_cast, Nat.reduceEqDiff, h2, h8, h9, h10, h13, h14, h15, h17, BkO]
  refine loadX_agg Shp.eq (.tail _ (List.mem_append_right _ (.head _))) rfl rfl ?_
  simp (disch := omega) only [push_cast, Nat.reduceEqDiff, h2, h8, h9, h10, h13, h14, h15, h17]
  refine callV en_21 (callX_base (fun w' hw' => bookValue_walk wb w' b21 va1 R1 ((b17, vCs (zeroP f).1 za zc) :: (b15, vCs (zeroP f).1 ya yc) :: (b13, vCs (zeroP f).1 xa xc) :: (b10, vCs v ta tc) :: (b8, fCs f ga gc) :: (b3, vCs v va vc) :: (b2, fCs f a c) :: ((((Mg ++ M1) ++ ownR itx) ++ ownR ity) ++ ownR itz)) (ity.map Rw.way) (zeroP f).1 itz za zc hZz hR1 (fun p hp => by simp [hp]) (hREST' _ _) hb21 (by simp only [List.length_map]; omega) hw') ?_)
  rintro e' w' ⟨rfl, va2, R2, hR2, q1⟩
  refine ⟨_, _, rfl, q1, ?_⟩
  clear q1
  rw [← List.map_append] at hR2
  have hpos : 0 < ((ity ++ itz).map Rw.way).length := by
    obtain ⟨_, _, x, its', rfl, _⟩ := (ZeV_iff _ _ _ _).1 hZy
    simp
  have hnR2 : ∀ p ∈ R2, wb.heap.size ≤ p.1 := RowO.new hR2 (by simp)
  (refine Exists.elim (RowO.get hR2 hpos) (fun rb hz => Exists.elim hz (fun rcap hz => Exists.elim hz (fun rcs hz => ?_))); have ez := hz.1; subst ez; have ez := hz.2.1; subst ez; have hrcs := hz.2.2; clear hz)
  rw [List.length_map, Nat.mul_one] at hrcs
  simp (disch := omega) only [push_cast, Nat.reduceEqDiff, h2, h8, h9, h10, h13, h14, h15, h17, BkO, List.length_map]
  refine callV en_22 (callX_base (fun w' hw' => apart_walk wb w' b21 rb rcap rcs (ity ++ itz) ((b17, vCs (zeroP f).1 za zc) :: (b15, vCs (zeroP f).1 ya yc) :: (b13, vCs (zeroP f).1 xa xc) :: (b10, vCs v ta tc) :: (b8, fCs f ga gc) :: (b3, vCs v va vc) :: (b2, fCs f a c) :: ((Mg ++ M1) ++ ownR itx)) (fun x hx => ?_) hrcs (by rw [List.length_append]; omega) (fun p hp => ?_) hb21 (hnR2 _ (.head _)) (hw'.perm (?_ : List.Perm (oBk b21 (.slice (some ⟨rb, 0, none⟩) (ity ++ itz).length rcap) (.slice none 0 0) :: oWs rb rcs :: ((b17, vCs (zeroP f).1 za zc) :: (b15, vCs (zeroP f).1 ya yc) :: (b13, vCs (zeroP f).1 xa xc) :: (b10, vCs v ta tc) :: (b8, fCs f ga gc) :: (b3, vCs v va vc) :: (b2, fCs f a c) :: ((((Mg ++ M1) ++ ownR itx) ++ ownR ity) ++ ownR itz))) _))) ?_)
  · rcases List.mem_append.1 hx with hx | hx
    · have := ZeV.rows _ hZy x hx
      exact ⟨this.1, by omega⟩
    · have := ZeV.rows _ hZz x hx
      exact ⟨this.1, by omega⟩
  · rw [ownR_append] at hp
    rcases List.mem_append.1 hp with hp | hp
    · exact hMy p hp
    · exact hMz p hp
  · rw [ownR_append]
    exact permC fun f => by simp only [wt_append, wt_cons, wt_nil]; omega
  rintro e' w' ⟨rfl, q1⟩
  refine ⟨_, _, rfl, q1, ?_⟩
  clear q1
  simp (disch := omega) only [push_cast, Nat.reduceEqDiff, h2, h8, h9, h10, h13, h14, h15, h17]
  have hR1' : ∀ p ∈ (b17, vCs (zeroP f).1 za zc) :: (b15, vCs (zeroP f).1 ya yc) :: (b13, vCs (zeroP f).1 xa xc) :: (b10, vCs v ta tc) :: (b8, fCs f ga gc) :: (b3, vCs v va vc) :: (b2, fCs f a c) :: ((Mg ++ M1) ++ ownR itx), wb.heap.size ≤ p.1 := fun p hp => hREST' (vCs (zeroP f).1 za zc) (vCs (zeroP f).1 ya yc) p (by simp only [List.mem_cons, List.mem_append] at hp ⊢; rcases hp with hp | hp | hp | hp | hp | hp | hp | hp <;> simp [hp])
  refine loadX_agg Shp.eq mem4 rfl rfl ?_
  simp (disch := omega) only [push_cast, Nat.reduceEqDiff, h2, h8, h9, h10, h13, h14, h15, h17]
  refine callV en_20 (callX_newR (fun w' hw' => zeroS_walk w' (hs.mono hw' hR1') w'.heap.size (Nat.le_refl _) f ga gc (hOw.at_ hlo hA hw' (fun p hp => by simp [hp]) hR1') hfn) (fun u Mu hMu hMun hu => ?_))
  (refine Exists.elim (hu) (fun itu hz => Exists.elim hz (fun ua hz => Exists.elim hz (fun uc hz => ?_))); have ez := hz.1; subst ez; have ez := hz.2.1; subst ez; have hZu := hz.2.2; clear hz)
  simp (disch := omega) only [push_cast, Nat.reduceEqDiff, h2, h8, h9, h10, h13, h14, h15, h17, Vl.cells]
  refine newI (fun b23 hb23 hn23 => ?_)
  simp (disch := omega) only [push_cast, Nat.reduceEqDiff, h2, h8, h9, h10, h13, h14, h15, h17]
  refine storeX 0 rfl Siz.eq rfl rfl (by simp [Value.oneCell']) (by simp) ?_
  simp (disch := omega) only [push_cast, Nat.reduceEqDiff, h2, h8, h9, h10, h13, h14, h15, h17]
  refine loadX_agg Shp.eq mem3 rfl rfl ?_
  simp (disch := omega) only [push_cast, Nat.reduceEqDiff, h2, h8, h9, h10, h13, h14, h15, h17]
  refine loadX_agg Shp.eq mem0 rfl rfl ?_
  simp (disch := omega) only [push_cast, Nat.reduceEqDiff, h2, h8, h9, h10, h13, h14, h15, h17]
  refine callV en_11 (callX_is (fun w' hw' => kS _ w' hw' itx itu xa ua xc uc hZx hZu (fun p hp => by simp [hp]) (fun p hp => by simp [hp])) ?_)
  rw [hsame]
  simp (disch := omega) only [push_cast, Nat.reduceEqDiff, h2, h8, h9, h10, h13, h14, h15, h17, Bool.not_true, ne_eq, not_true_eq_false, decide_false]
  rw [V_cond]
  simp (disch := omega) only [push_cast, Nat.reduceEqDiff, h2, h8, h9, h10, h13, h14, h15, h17]
  have hL9 : ∀ (o : Obj), ∀ p ∈ (b23, o) :: (b17, vCs (zeroP f).1 za zc) :: (b15, vCs (zeroP f).1 ya yc) :: (b13, vCs (zeroP f).1 xa xc) :: (b10, vCs v ta tc) :: (b8, fCs f ga gc) :: (b3, vCs v va vc) :: (b2, fCs f a c) :: (((Mg ++ M1) ++ ownR itx) ++ ownR itu), wb.heap.size ≤ p.1 := fun o p hp => by
    rcases List.mem_cons.1 hp with rfl | hp
    · exact hb23
    have hp2 : p ∈ (b17, vCs (zeroP f).1 za zc) :: (b15, vCs (zeroP f).1 ya yc) :: (b13, vCs (zeroP f).1 xa xc) :: (b10, vCs v ta tc) :: (b8, fCs f ga gc) :: (b3, vCs v va vc) :: (b2, fCs f a c) :: ((Mg ++ M1) ++ ownR itx) ∨ p ∈ ownR itu := by
      simp only [List.mem_cons, List.mem_append] at hp ⊢
      rcases hp with hp | hp | hp | hp | hp | hp | hp | hp | hp <;> simp [hp]
    rcases hp2 with hp | hp
    · exact hR1' p hp
    · exact hMu p hp
  refine forgetG (fun e => e 2 = .pointer (some ⟨b2, 0, none⟩) ∧ e 8 = .pointer (some ⟨b8, 0, none⟩) ∧ e 10 = .pointer (some ⟨b10, 0, none⟩) ∧ e 137 = .bool (!fewP f)) ⟨h2, h8, h10, rfl⟩ ?_
  clear h2 h8 h9 h10 h13 h14 h15 h17 e
  rintro e ⟨h2, h8, h10, h137⟩
  refine guardX_bf h137 (fun hf => ?_) (fun hf => ?_)
  · have hO : OwF f Mg ga gc := by
      rcases hOw with ⟨_, hO⟩ | ⟨h, _⟩
      · exact hO
      · rw [h] at hf; cases hf
    simp (disch := omega) only [push_cast, Nat.reduceEqDiff, h2, h8, h10]
    refine loadX_agg Shp.eq mem5 rfl rfl ?_
    simp (disch := omega) only [push_cast, Nat.reduceEqDiff, h2, h8, h10]
    refine loadX_agg Shp.eq mem4 rfl rfl ?_
    simp (disch := omega) only [push_cast, Nat.reduceEqDiff, h2, h8, h10]
    refine loadX_agg Shp.eq (.tail _ (.tail _ mem5)) rfl rfl ?_
    simp (disch := omega) only [push_cast, Nat.reduceEqDiff, h2, h8, h10]
    refine callV en_23 (callX_base (fun w' hw' => fitsAgain_walk wb w' hs hTb lo hlo f v ga a ta gc c tc Mg M1 ((b23, vCs (zeroP f).1 ua uc) :: (b17, vCs (zeroP f).1 za zc) :: (b15, vCs (zeroP f).1 ya yc) :: (b13, vCs (zeroP f).1 xa xc) :: (b10, vCs v ta tc) :: (b8, fCs f ga gc) :: (b3, vCs v va vc) :: (b2, fCs f a c) :: (ownR itx ++ ownR itu)) hO (OwV.tr v hO1) hA (fun p hp => hL9 (vCs (zeroP f).1 ua uc) p (by simp only [List.mem_cons, List.mem_append] at hp ⊢; rcases hp with hp | hp | hp | hp | hp | hp | hp | hp | hp | hp | hp | hp <;> simp [hp])) (hw'.perm (?_ : List.Perm ((b23, vCs (zeroP f).1 ua uc) :: (b17, vCs (zeroP f).1 za zc) :: (b15, vCs (zeroP f).1 ya yc) :: (b13, vCs (zeroP f).1 xa xc) :: (b10, vCs v ta tc) :: (b8, fCs f ga gc) :: (b3, vCs v va vc) :: (b2, fCs f a c) :: (((Mg ++ M1) ++ ownR itx) ++ ownR itu)) _))) ?_)
    · exact permC fun f => by simp only [wt_append, wt_cons, wt_nil]; omega
    rintro e' w' ⟨rfl, L', q1, hnL⟩
    refine ⟨_, _, rfl, q1, ?_⟩
    clear q1
    simp (disch := omega) only [push_cast, Nat.reduceEqDiff]
    exact finIs hnL rfl
  · simp (disch := omega) only [push_cast, Nat.reduceEqDiff, h2, h8, h10]
    exact finIs (hL9 _) rfl
end Go.Proofs.YtjkogfiidhjpcaaDoor
