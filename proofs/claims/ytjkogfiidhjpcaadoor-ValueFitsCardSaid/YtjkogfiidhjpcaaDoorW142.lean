/- YtjkogfiidhjpcaaDoor: walks, part 142: a field and a value that their owner writes over: Fits and Zero answer as the document then. -/
import Derived.Test.YtjkogfiidhjpcaaDoorW141
import Derived.Test.YtjkogfiidhjpcaaDoorW90
namespace Go.Proofs.YtjkogfiidhjpcaaDoor
open Go Go.K
set_option maxRecDepth 100000
set_option linter.unusedVariables false
set_option linter.unusedSimpArgs false
set_option maxHeartbeats 4000000
theorem FlAt.weakenB {w : World} {lo lo' : Nat} {f : Fld} {a : Option Addr} {c : Nat} (h : FlAt w lo f a c) (hle : lo ≤ lo') : FlAt w lo' f a c := ⟨h.hr.weaken hle, h.hc, h.hc2⟩
/-- A field that lets nulls, if it did not. -/
def flipF (f : Fld) : Fld := .mk f.nm (!f.nl) f.k f.wd f.id f.ix f.sub
theorem OwF.flip {f : Fld} {K : Own} {a : Option Addr} {c : Nat} (h : OwF f K a c) : OwF (flipF f) K a c := by
  rw [OwF_iff] at h ⊢
  exact h
theorem OwS.flip {l : List Fld} {K : Own} {a : Option Addr} {c i : Nat} {x : Fld} (h : OwS l K a c) (hi : l[i]? = some x) :
    ∃ (b : Nat) (cs : List Value) (K0 : Own), a = some ⟨b, 0, none⟩ ∧ K = (b, Obj.cells cs.toArray 26 (0, 0)) :: K0 ∧ i * 7 + 7 ≤ cs.length ∧ cs[i * 7 + 1]? = some (.bool x.nl) ∧
      OwS (l.set i (flipF x)) ((b, Obj.cells (splice cs (i * 7 + 1) [.bool (!x.nl)]).toArray 26 (0, 0)) :: K0) a c := by
  have hil := (List.getElem?_eq_some_iff.1 hi).1
  rcases (OwS_iff _ _ _ _).1 h with ⟨rfl, rfl, rfl, rfl⟩ | ⟨b, cap, cs, xs, K0, rfl, rfl, h2, h3, h4, h5, h6, h7, h8⟩
  · simp at hi
  obtain ⟨rest, rfl⟩ : ∃ rest, cs = xs ++ rest := ⟨cs.drop (l.length * 7), by rw [← h7, List.take_append_drop]⟩
  obtain ⟨KA, KF, KB, a2, c2, ca, cb, rfl, rfl, q1, q2, q3⟩ := h8.split i hi
  have hca : ca.length = i * 7 := by rw [q1.len, List.length_take, Nat.min_eq_left (by omega)]
  have hcx : x.cells a2 c2 = [str x.nm] ++ ([.bool x.nl] ++ [i64 x.k, i64 x.wd, i64 x.id, i64 x.ix, .slice a2 x.sub.length c2]) := rfl
  have hcf : ((flipF x).cells a2 c2) = [str x.nm] ++ ([.bool (!x.nl)] ++ [i64 x.k, i64 x.wd, i64 x.id, i64 x.ix, .slice a2 x.sub.length c2]) := rfl
  have hlx : (x.cells a2 c2).length = 7 := rfl
  have hlf : (((flipF x).cells a2 c2)).length = 7 := rfl
  have hK : OwK (l.set i (flipF x)) (KA ++ (KF ++ KB)) (ca ++ (((flipF x).cells a2 c2) ++ cb)) := by
    rw [List.set_eq_take_append_cons_drop, if_pos hil]
    exact OwK.append (OwK.cons q2.flip q3) q1
  have hsp : splice ((ca ++ (x.cells a2 c2 ++ cb)) ++ rest) (i * 7 + 1) [.bool (!x.nl)] = (ca ++ (((flipF x).cells a2 c2) ++ cb)) ++ rest := by
    have e1 : (ca ++ (x.cells a2 c2 ++ cb)) ++ rest = (ca ++ [str x.nm]) ++ ([.bool x.nl] ++ ([i64 x.k, i64 x.wd, i64 x.id, i64 x.ix, .slice a2 x.sub.length c2] ++ (cb ++ rest))) := by
      rw [hcx]; simp only [List.append_assoc]
    have e2 : (ca ++ (((flipF x).cells a2 c2) ++ cb)) ++ rest = (ca ++ [str x.nm]) ++ ([.bool (!x.nl)] ++ ([i64 x.k, i64 x.wd, i64 x.id, i64 x.ix, .slice a2 x.sub.length c2] ++ (cb ++ rest))) := by
      rw [hcf]; simp only [List.append_assoc]
    rw [e1, e2]
    exact splice_inF (by rw [List.length_append, hca]; rfl) rfl
  refine ⟨b, _, _, rfl, rfl, ?_, ?_, ?_⟩
  · simp only [List.length_append, hlx, hca]; omega
  · have e1 : (ca ++ (x.cells a2 c2 ++ cb)) ++ rest = ca ++ (x.cells a2 c2 ++ (cb ++ rest)) := by simp only [List.append_assoc]
    rw [e1]
    exact get_midF hca rfl
  · rw [hsp]
    have hl2 : (l.set i (flipF x)).length = l.length := List.length_set
    refine (OwS_iff _ _ _ _).2 (.inr ⟨b, cap, _, _, _, rfl, rfl, by rw [hl2]; exact h2, h3, by rw [hl2]; exact h4, h5, ?_, rfl, ?_⟩)
    · rw [← h6]; simp only [List.length_append, hlx, hlf]
    · have e3 : ((ca ++ (((flipF x).cells a2 c2) ++ cb)) ++ rest).take ((l.set i (flipF x)).length * 7) = ca ++ (((flipF x).cells a2 c2) ++ cb) := by
        rw [← hK.len, List.take_left]
      rw [e3]
      exact hK
/-- The first i fields are turned. -/
def flipN (i : Nat) (l : List Fld) : List Fld := (l.take i).map flipF ++ l.drop i
theorem flipN_len (i : Nat) (l : List Fld) : (flipN i l).length = l.length := by simp [flipN]; omega
theorem flipN_zero (l : List Fld) : flipN 0 l = l := by simp [flipN]
theorem flipN_get {l : List Fld} {i : Nat} {x : Fld} (h : l[i]? = some x) : (flipN i l)[i]? = some x := by
  have hil := (List.getElem?_eq_some_iff.1 h).1
  rw [flipN, List.getElem?_append_right (by simp; omega)]
  simp only [List.length_map, List.length_take, Nat.min_eq_left (Nat.le_of_lt hil), Nat.sub_self, List.getElem?_drop, Nat.add_zero]
  exact h
theorem flipN_succ {l : List Fld} {i : Nat} {x : Fld} (h : l[i]? = some x) : (flipN i l).set i (flipF x) = flipN (i + 1) l := by
  have hil := (List.getElem?_eq_some_iff.1 h).1
  have hl : ((l.take i).map flipF).length = i := by simp; omega
  have hd : l.drop i = x :: l.drop (i + 1) := by
    obtain ⟨q1, rfl⟩ := List.getElem?_eq_some_iff.1 h
    exact List.drop_eq_getElem_cons q1
  rw [flipN, flipN, List.set_append_right _ _ (by omega), hl, Nat.sub_self, hd, List.set_cons_zero, List.take_add_one, h, List.map_append]
  simp
/-- A field, its children told anew. -/
def havingF (f : Fld) (l : List Fld) : Fld := .mk f.nm f.nl f.k f.wd f.id f.ix l
theorem permT3 (x y z : Nat × Obj) (A B C : Own) : (x :: y :: z :: (A ++ (B ++ C))).Perm (B ++ (x :: y :: z :: (A ++ C))) := permC fun f => by simp only [wt_append, wt_cons, wt_nil]; omega
structure FnI (w0 : World) (b3 b4 b5 : Nat) (f : Fld) (ga : Option Addr) (gc : Nat) (o4 o5 : Obj) (T : Own) (i : Nat) (wb : World) (e : Env) (ds : List Deferred) (L : Own) : Prop where
  hw : wb = w0
  hds : ds = []
  hi : i ≤ f.sub.length
  h3 : e 3 = .pointer (some ⟨b3, 0, none⟩)
  h4 : e 4 = .pointer (some ⟨b4, 0, none⟩)
  h11 : e 11 = i64 i
  o : ∃ K : Own, OwS (flipN i f.sub) K ga gc ∧ (∀ p ∈ K, w0.heap.size ≤ p.1) ∧ L = (b5, o5) :: (b4, o4) :: (b3, Obj.cells #[str f.nm, .bool f.nl, i64 f.k, i64 f.wd, i64 f.id, i64 f.ix, .slice ga f.sub.length gc] 26 (0, 0)) :: (K ++ T)
theorem fitsAgain_walk (wb w : World) (hs : SaysAt wb) (hTb : TabsAt wb) (lo : Nat) (hlo : lo ≤ wb.heap.size) (f : Fld) (v : Vl) (ga a ta : Option Addr) (gc c tc : Nat) (Kg Kt M : Own) (hO : OwF f Kg ga gc) (hT : TrV v Kt ta tc) (hA : FlAt wb lo f a c)
    (hnew : ∀ p ∈ Kg ++ (Kt ++ M), wb.heap.size ≤ p.1) (hw : Sy wb (Kg ++ (Kt ++ M)) w) :
    Calls Tryd.prog 23 #[.agg (f.cells ga gc).toArray, .agg (v.cells ta tc).toArray, .agg (f.cells a c).toArray] w (fun e w' => e = .returned (.bool true) ∧ ∃ L', Sy wb L' w' ∧ ∀ p ∈ L', wb.heap.size ≤ p.1) := by
  have hfn := hO.nm_le
  have hgl := hO.le
  refine enterB (args := [.agg (f.cells ga gc).toArray, .agg (v.cells ta tc).toArray, .agg (f.cells a c).toArray]) Tryd.func23 rfl Tryd.ntmps23 (congrArg Array.toList Tryd.results23) (by kernel_rfl) (by simp) hw ?_
  simp (disch := omega) only [push_cast, Nat.reduceEqDiff, Fld.cells, Vl.cells]
  refine newI (fun b3 hb3 hn3 => ?_)
  simp (disch := omega) only [push_cast, Nat.reduceEqDiff, Fld.cells, Vl.cells]
  refine newI (fun b4 hb4 hn4 => ?_)
  simp (disch := omega) only [push_cast, Nat.reduceEqDiff, Fld.cells, Vl.cells]
  refine newI (fun b5 hb5 hn5 => ?_)
  simp (disch := omega) only [push_cast, Nat.reduceEqDiff, Fld.cells, Vl.cells]
  have hL : ∀ (x y z : Obj) (K : Own), (∀ p ∈ K, wb.heap.size ≤ p.1) → ∀ p ∈ (b5, x) :: (b4, y) :: (b3, z) :: K, wb.heap.size ≤ p.1 := fun x y z K hK p hp => by
    simp only [List.mem_cons] at hp
    rcases hp with rfl | rfl | rfl | hp
    · exact hb5
    · exact hb4
    · exact hb3
    · exact hK p hp
  have kG := fun (x y z : Obj) (w' : World) (hw' : Sy wb ((b5, x) :: (b4, y) :: (b3, z) :: (Kg ++ (Kt ++ M))) w') => (⟨hO.rd hw' (fun p hp => by simp [hp]), hgl.1, hgl.2⟩ : FlAt w' w'.heap.size f ga gc)
  have kT := fun (x y z : Obj) (w' : World) (hw' : Sy wb ((b5, x) :: (b4, y) :: (b3, z) :: (Kg ++ (Kt ++ M))) w') => TrV.at_ hw' v hT (fun p hp => by simp [hp])
  have kF := fun (x y z : Obj) (w' : World) (hw' : Sy wb ((b5, x) :: (b4, y) :: (b3, z) :: (Kg ++ (Kt ++ M))) w') => (hA.sy hlo hw' (hL _ _ _ _ hnew)).weakenB (Nat.le_trans hlo hw'.size)
  refine loadX_agg Shp.eq mem2 rfl rfl ?_
  simp (disch := omega) only [push_cast, Nat.reduceEqDiff]
  refine loadX_agg Shp.eq mem0 rfl rfl ?_
  simp (disch := omega) only [push_cast, Nat.reduceEqDiff]
  refine callV en_44 (callX_is (fun w' hw' => eqField_walk w' w'.heap.size w'.heap.size f ga a gc c (Nat.le_refl _) (Nat.le_refl _) (kG _ _ _ w' hw').hr (kF _ _ _ w' hw').hr (by omega)) ?_)
  simp (disch := omega) only [push_cast, Nat.reduceEqDiff, Bool.not_true]
  rw [V_cond]
  simp (disch := omega) only [push_cast, Nat.reduceEqDiff, Bool.not_true]
  refine loadX_agg Shp.eq mem2 rfl rfl ?_
  simp (disch := omega) only [push_cast, Nat.reduceEqDiff]
  refine loadX_agg Shp.eq mem1 rfl rfl ?_
  simp (disch := omega) only [push_cast, Nat.reduceEqDiff]
  refine callV en_16 (callX_is (fun w' hw' => fits_rung w' (hs.mono hw' (hL _ _ _ _ hnew)) w'.heap.size (hTb.mono hw' (hL _ _ _ _ hnew)) (Nat.le_refl _) f v ga ta gc tc (kG _ _ _ w' hw') hfn (kT _ _ _ w' hw')) ?_)
  simp (disch := omega) only [push_cast, Nat.reduceEqDiff]
  refine loadX_agg Shp.eq mem0 rfl rfl ?_
  simp (disch := omega) only [push_cast, Nat.reduceEqDiff]
  refine loadX_agg Shp.eq mem1 rfl rfl ?_
  simp (disch := omega) only [push_cast, Nat.reduceEqDiff]
  refine callV en_17 (callX_is (fun w' hw' => fitsRef_walk w' w'.heap.size (Nat.le_refl _) f v a ta c tc (kF _ _ _ w' hw') hfn (kT _ _ _ w' hw')) ?_)
  simp (disch := omega) only [push_cast, Nat.reduceEqDiff]
  rw [V_cond]
  simp (disch := omega) only [push_cast, Nat.reduceEqDiff]
  refine condX_d (fun h => (by first | exact absurd rfl h | exact absurd trivial h)) (fun _ => ?_)
  simp (disch := omega) only [push_cast, Nat.reduceEqDiff]
  refine ldOne Shp.eq mem1 rfl ?_
  simp (disch := omega) only [push_cast, Nat.reduceEqDiff]
  refine callV en_15 (callX_base (fun w' hw' => turn_walk wb w' v Kt _ ta tc hT (hw'.perm (permT3 _ _ _ Kg Kt M)) (fun p hp => ?_)) ?_)
  · rcases List.mem_append.1 hp with hp | hp
    · exact hnew p (by simp [hp])
    · exact hL _ _ _ _ (fun p hp => hnew p (by rcases List.mem_append.1 hp with hp | hp <;> simp [hp])) p hp
  rintro e' w' ⟨rfl, K1, tr1, q2, hK1⟩
  refine ⟨_, _, rfl, q2.perm (permT3 _ _ _ Kg K1 M).symm, ?_⟩
  clear q2 kT kG kF
  simp (disch := omega) only [push_cast, Nat.reduceEqDiff]
  have hnew1 : ∀ p ∈ Kg ++ (K1 ++ M), wb.heap.size ≤ p.1 := fun p hp => by
    simp only [List.mem_append] at hp
    rcases hp with hp | hp | hp
    · exact hnew p (by simp [hp])
    · exact hK1 p hp
    · exact hnew p (by simp [hp])
  obtain ⟨x1, hx1⟩ : ∃ x1 : Vl, x1 = .mk v.nu v.num v.tx (turnL v.ls) := ⟨_, rfl⟩
  have hce : x1.cells ta tc = [.bool v.nu, i64 v.num, str v.tx, .slice ta v.ls.length tc] := by rw [hx1]; simp [Vl.cells, Vl.nu, Vl.num, Vl.tx, Vl.ls, turnL_len]
  rw [← hx1] at tr1
  have kG := fun (x y z : Obj) (w' : World) (hw' : Sy wb ((b5, x) :: (b4, y) :: (b3, z) :: (Kg ++ (K1 ++ M))) w') => (⟨hO.rd hw' (fun p hp => by simp [hp]), hgl.1, hgl.2⟩ : FlAt w' w'.heap.size f ga gc)
  have kT := fun (x y z : Obj) (w' : World) (hw' : Sy wb ((b5, x) :: (b4, y) :: (b3, z) :: (Kg ++ (K1 ++ M))) w') => TrV.at_ hw' x1 tr1 (fun p hp => by simp [hp])
  refine loadX_agg Shp.eq mem2 rfl rfl ?_
  simp (disch := omega) only [push_cast, Nat.reduceEqDiff]
  refine loadX_agg Shp.eq mem1 rfl rfl ?_
  simp (disch := omega) only [push_cast, Nat.reduceEqDiff]
  refine callV en_17 (callX_is (fun w' hw' => by have := fitsRef_walk w' w'.heap.size (Nat.le_refl _) f x1 ga ta gc tc (kG _ _ _ w' hw') hfn (kT _ _ _ w' hw'); rw [hce] at this; exact this) ?_)
  simp (disch := omega) only [push_cast, Nat.reduceEqDiff]
  refine loadX_agg Shp.eq mem2 rfl rfl ?_
  simp (disch := omega) only [push_cast, Nat.reduceEqDiff]
  refine loadX_agg Shp.eq mem1 rfl rfl ?_
  simp (disch := omega) only [push_cast, Nat.reduceEqDiff]
  refine callV en_16 (callX_is (fun w' hw' => by have := fits_rung w' (hs.mono hw' (hL _ _ _ _ hnew1)) w'.heap.size (hTb.mono hw' (hL _ _ _ _ hnew1)) (Nat.le_refl _) f x1 ga ta gc tc (kG _ _ _ w' hw') hfn (kT _ _ _ w' hw'); rw [hce] at this; exact this) ?_)
  simp (disch := omega) only [push_cast, Nat.reduceEqDiff]
  rw [V_cond]
  simp (disch := omega) only [push_cast, Nat.reduceEqDiff]
  refine condX_d (fun h => (by first | exact absurd rfl h | exact absurd trivial h)) (fun _ => ?_)
  simp (disch := omega) only [push_cast, Nat.reduceEqDiff]
  rw [V_block]
  simp (disch := omega) only [push_cast, Nat.reduceEqDiff]
  refine loopW (G := Nat) (FnI wb b3 b4 b5 f ga gc (Obj.cells #[.bool v.nu, i64 v.num, str v.tx, .slice ta v.ls.length tc] 29 (0, 0)) (Obj.cells #[str f.nm, .bool f.nl, i64 f.k, i64 f.wd, i64 f.id, i64 f.ix, .slice a f.sub.length c] 26 (0, 0)) (K1 ++ M)) (fun i => f.sub.length - i) 0 _ (fun w hw => hw) (by kernel_rfl) ⟨rfl, rfl, by omega, rfl, rfl, rfl, Kg, by rw [flipN_zero]; exact hO.toS, fun p hp => hnew1 p (by simp [hp]), rfl⟩ ?_
  clear kG kT
  rintro i wb e ds L ⟨rfl, rfl, hi, h3, h4, h11, Kh, hKh, hKhn, rfl⟩
  simp (disch := omega) only [push_cast, Nat.reduceEqDiff, h3, h4, h11]
  refine ldOne Shp.eq mem2 rfl ?_
  simp (disch := omega) only [push_cast, Nat.reduceEqDiff, h3, h4, h11]
  rw [V_cond]
  simp (disch := omega) only [push_cast, Nat.reduceEqDiff, h3, h4, h11]
  refine condX_d (fun hlt => ?_) (fun hge => ?_)
  · obtain ⟨x, hx⟩ : ∃ x, f.sub[i]? = some x := ⟨_, List.getElem?_eq_getElem (by omega)⟩
    obtain ⟨b, cs, K0, rfl, rfl, hcl, hcx, hO2⟩ := hKh.flip (flipN_get hx)
    rw [flipN_succ hx] at hO2
    simp (disch := omega) only [push_cast, Nat.reduceEqDiff, h3, h4, h11]
    rw [V_block]
    simp (disch := omega) only [push_cast, Nat.reduceEqDiff, h3, h4, h11]
    refine drawTT 14 (by kernel_rfl) (by kernel_rfl) mixed (by kernel_rfl) rfl rfl ?_
    simp (disch := omega) only [push_cast, Nat.reduceEqDiff, h3, h4, h11]
    refine ldOne Shp.eq mem2 rfl ?_
    simp (disch := omega) only [push_cast, Nat.reduceEqDiff, h3, h4, h11]
    refine ldOne Shp.eq mem2 rfl ?_
    simp (disch := omega) only [push_cast, Nat.reduceEqDiff, h3, h4, h11]
    refine ldOne Shp.eq mem3 hcx ?_
    simp (disch := omega) only [push_cast, Nat.reduceEqDiff, h3, h4, h11]
    refine storeX 3 rfl Siz.eq rfl rfl (by simp [Value.oneCell']) (by omega) ?_
    simp (disch := omega) only [push_cast, Nat.reduceEqDiff, h3, h4, h11]
    refine ⟨i + 1, _, fun w hw => hw, ⟨rfl, rfl, by omega, h3, h4, by simp only [upd]; rfl, _, hO2, fun p hp => ?_, rfl⟩, by omega⟩
    rcases List.mem_cons.1 hp with rfl | hp
    · exact hKhn (b, Obj.cells cs.toArray 26 (0, 0)) (.head _)
    · exact hKhn p (.tail _ hp)
  obtain rfl : i = f.sub.length := by omega
  obtain ⟨g, hg⟩ : ∃ g : Fld, g = havingF f (flipN f.sub.length f.sub) := ⟨_, rfl⟩
  have hgc : g.cells ga gc = [str f.nm, .bool f.nl, i64 f.k, i64 f.wd, i64 f.id, i64 f.ix, .slice ga f.sub.length gc] := by
    rw [hg]; simp [havingF, Fld.cells, Fld.nm, Fld.nl, Fld.k, Fld.wd, Fld.id, Fld.ix, Fld.sub, flipN_len]
  have hgO : OwF g Kh ga gc := by rw [hg]; exact OwS.toF hKh hfn
  have hgn := hgO.nm_le
  have hgl2 := hgO.le
  have hnew2 : ∀ p ∈ Kh ++ (K1 ++ M), wb.heap.size ≤ p.1 := fun p hp => by
    rcases List.mem_append.1 hp with hp | hp
    · exact hKhn p hp
    · exact hnew1 p (by simp only [List.mem_append] at hp ⊢; exact .inr hp)
  have hL2 := fun x y z => hL x y z _ hnew2
  have kG := fun (x y z : Obj) (w' : World) (hw' : Sy wb ((b5, x) :: (b4, y) :: (b3, z) :: (Kh ++ (K1 ++ M))) w') => (⟨hgO.rd hw' (fun p hp => by simp [hp]), hgl2.1, hgl2.2⟩ : FlAt w' w'.heap.size g ga gc)
  have kT := fun (x y z : Obj) (w' : World) (hw' : Sy wb ((b5, x) :: (b4, y) :: (b3, z) :: (Kh ++ (K1 ++ M))) w') => TrV.at_ hw' x1 tr1 (fun p hp => by simp [hp])
  simp (disch := omega) only [push_cast, Nat.reduceEqDiff, h3, h4, h11]
  refine loadX_agg Shp.eq mem2 rfl rfl ?_
  simp (disch := omega) only [push_cast, Nat.reduceEqDiff, h3, h4]
  refine loadX_agg Shp.eq mem1 rfl rfl ?_
  simp (disch := omega) only [push_cast, Nat.reduceEqDiff, h3, h4]
  refine callV en_17 (callX_is (fun w' hw' => by have := fitsRef_walk w' w'.heap.size (Nat.le_refl _) g x1 ga ta gc tc (kG _ _ _ w' hw') hgn (kT _ _ _ w' hw'); rw [hce, hgc] at this; exact this) ?_)
  simp (disch := omega) only [push_cast, Nat.reduceEqDiff, h3, h4]
  refine loadX_agg Shp.eq mem2 rfl rfl ?_
  simp (disch := omega) only [push_cast, Nat.reduceEqDiff, h3, h4]
  refine loadX_agg Shp.eq mem1 rfl rfl ?_
  simp (disch := omega) only [push_cast, Nat.reduceEqDiff, h3, h4]
  refine callV en_16 (callX_is (fun w' hw' => by have := fits_rung w' (hs.mono hw' (hL2 _ _ _)) w'.heap.size (hTb.mono hw' (hL2 _ _ _)) (Nat.le_refl _) g x1 ga ta gc tc (kG _ _ _ w' hw') hgn (kT _ _ _ w' hw'); rw [hce, hgc] at this; exact this) ?_)
  simp (disch := omega) only [push_cast, Nat.reduceEqDiff, h3, h4]
  refine loadX_agg Shp.eq mem2 rfl rfl ?_
  simp (disch := omega) only [push_cast, Nat.reduceEqDiff, h3, h4]
  refine callV en_19 (callX_newR (fun w' hw' => by have := zeroR_walk w' w'.heap.size (Nat.le_refl _) g ga gc (kG _ _ _ w' hw') hgn; rw [hgc] at this; exact this) (fun u M1 hM1 hMn1 hu => ?_))
  obtain ⟨its1, za1, zc1, rfl, rfl, hZ1⟩ := hu
  simp (disch := omega) only [push_cast, Nat.reduceEqDiff, h3, h4, Vl.cells]
  refine newI (fun b12 hb12 hn12 => ?_)
  simp (disch := omega) only [push_cast, Nat.reduceEqDiff, h3, h4]
  refine storeX 0 rfl Siz.eq rfl rfl (by simp [Value.oneCell']) (by simp) ?_
  simp (disch := omega) only [push_cast, Nat.reduceEqDiff, h3, h4]
  refine loadX_agg Shp.eq mem3 rfl rfl ?_
  simp (disch := omega) only [push_cast, Nat.reduceEqDiff, h3, h4]
  have hL3 : ∀ (o x y z : Obj), ∀ p ∈ (b12, o) :: (b5, x) :: (b4, y) :: (b3, z) :: ((Kh ++ (K1 ++ M)) ++ ownR its1), wb.heap.size ≤ p.1 := fun o x y z p hp => by
    rcases List.mem_cons.1 hp with rfl | hp
    · exact hb12
    · refine hL x y z _ (fun p hp => ?_) p hp
      rcases List.mem_append.1 hp with hp | hp
      · exact hnew2 p hp
      · exact hM1 p hp
  refine callV en_20 (callX_newR (fun w' hw' => by have := zeroS_walk w' (hs.mono hw' (hL3 _ _ _ _)) w'.heap.size (Nat.le_refl _) g ga gc ⟨hgO.rd hw' (fun p hp => by simp [hp]), hgl2.1, hgl2.2⟩ hgn; rw [hgc] at this; exact this) (fun u M2 hM2 hMn2 hu => ?_))
  obtain ⟨its2, za2, zc2, rfl, rfl, hZ2⟩ := hu
  simp (disch := omega) only [push_cast, Nat.reduceEqDiff, h3, h4, Vl.cells]
  refine newI (fun b14 hb14 hn14 => ?_)
  simp (disch := omega) only [push_cast, Nat.reduceEqDiff, h3, h4]
  refine storeX 0 rfl Siz.eq rfl rfl (by simp [Value.oneCell']) (by simp) ?_
  simp (disch := omega) only [push_cast, Nat.reduceEqDiff, h3, h4]
  refine loadX_agg Shp.eq mem1 rfl rfl ?_
  simp (disch := omega) only [push_cast, Nat.reduceEqDiff, h3, h4]
  refine loadX_agg Shp.eq mem0 rfl rfl ?_
  simp (disch := omega) only [push_cast, Nat.reduceEqDiff, h3, h4]
  refine callV en_11 (callX_is (fun w' hw' => sameR_all _ w' w'.heap.size (zeroP g).1 (zeroP g).1 za1 za2 zc1 zc2 (Nat.le_refl _) (Nat.le_refl _) (TrV.at_ hw' _ (ZeV.tr _ hZ1) (fun p hp => by simp [hp])) (TrV.at_ hw' _ (ZeV.tr _ hZ2) (fun p hp => by simp [hp]))) ?_)
  rw [show sameV (zeroP g).1 (zeroP g).1 = true from (sameV_iff _ _).2 rfl]
  simp (maxSteps := 1000000) (disch := omega) only [push_cast, Nat.reduceEqDiff, h3, h4]
  refine forgetG (fun e => e 13 = i64 (zeroP g).2 ∧ e 15 = i64 (zeroP g).2 ∧ e 16 = .bool true ∧ e 86 = .bool (decide True)) ⟨rfl, rfl, rfl, rfl⟩ ?_
  clear h3 h4 h11 e
  rintro e ⟨h13, h15, h16, h86⟩
  refine guardX_t h86 (fun _ => ?_) (fun h => absurd trivial h)
  simp (disch := omega) only [push_cast, Nat.reduceEqDiff, h13, h15, h16]
  refine fun w' hw' => ⟨by simp, _, hw', fun p hp => ?_⟩
  rcases List.mem_cons.1 hp with rfl | hp
  · exact hb14
  rcases List.mem_cons.1 hp with rfl | hp
  · exact hb12
  refine hL _ _ _ _ (fun p hp => ?_) p hp
  simp only [List.mem_append] at hp
  rcases hp with ((hp | hp | hp) | hp) | hp
  · exact hnew2 p (by simp [hp])
  · exact hnew2 p (by simp [hp])
  · exact hnew2 p (by simp [hp])
  · exact hM1 p hp
  · exact hM2 p hp
end Go.Proofs.YtjkogfiidhjpcaaDoor
