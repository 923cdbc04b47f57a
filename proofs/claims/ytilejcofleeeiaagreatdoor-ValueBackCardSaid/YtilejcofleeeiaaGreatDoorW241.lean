/- YtilejcofleeeiaaGreatDoor: walks, part 241: THE ROW: what is printed is read back. -/
import Derived.Test.YtilejcofleeeiaaGreatDoorW240
import Derived.Test.YtilejcofleeeiaaGreatDoorW90
namespace Go.Proofs.YtilejcofleeeiaaGreatDoor
open Go Go.K
set_option maxRecDepth 100000
set_option linter.unusedVariables false
set_option linter.unusedSimpArgs false
set_option maxHeartbeats 4000000
abbrev fTa : Fld := .mk [97] false 12 0 0 0 []
abbrev vTb : Vl := .mk false 0 [98] []
theorem show_Tb : showV 64 fTa vTb = [34, 98, 34] := by
  rw [showV]
  rw [if_neg (by decide), if_neg (by decide), if_pos (show fTa.k = 12 from rfl)]
  decide
theorem fits_Tb : fitsP fTa vTb = 0 := by
  unfold fitsP
  rw [show mayD fTa = true by decide, if_pos rfl, if_pos]
  unfold goodD
  rw [fitD]
  have hu : Lib.validD [98] = true := by decide
  simp [Vl.ls, Vl.nu, Vl.tx, Vl.num, Fld.k, hu, wV, wL]
theorem parse_Tb : parseVP fTa [34, 98, 34] = (vTb, 0, 0) := by
  refine (print_parse (f := fTa) (v := vTb) (p := [34, 98, 34]) ?_ ?_).2
  · exact ⟨by decide, fun x hx => by cases hx⟩
  · unfold printP
    rw [fits_Tb, if_neg (by decide), show_Tb, if_neg (by decide)]
theorem printP_len (f : Fld) (v : Vl) : (printP f v).1.length ≤ 65536 := by
  unfold printP
  split
  · simp
  · split
    · simp
    · rename_i h; simp only; omega
structure BkI (w0 : World) (o3 o4 : Nat × Obj) (s : List UInt8) (wb : World) (e : Env) (ds : List Deferred) (L : Own) : Prop where
  hw : wb = w0
  hds : ds = []
  h2 : e 2 = str s
  h3 : e 3 = .pointer (some ⟨o3.1, 0, none⟩)
  h4 : e 4 = .pointer (some ⟨o4.1, 0, none⟩)
  m3 : o3 ∈ L
  m4 : o4 ∈ L
  hL : ∀ p ∈ L, w0.heap.size ≤ p.1
theorem valueBack_walk (w : World) (hs : SaysAt w) (hTb : TabsAt w) (hl : LibV w) (lo : Nat) (hlo : lo ≤ w.heap.size) (f : Fld) (v : Vl) (a va : Option Addr) (c vc : Nat) (hA : FlAt w lo f a c) (hfn : f.nm.length ≤ 9223372036854775807) (hV : VAt w lo v va vc) (s : List UInt8) (hsl : s.length ≤ 9223372036854775807) :
    Calls Tryz.prog 4 #[.agg (f.cells a c).toArray, .agg (v.cells va vc).toArray, str s] w (Rets w (Is (.bool true))) := by
  refine enterT (args := [.agg (f.cells a c).toArray, .agg (v.cells va vc).toArray, str s]) Tryz.func4 rfl Tryz.ntmps4 (congrArg Array.toList Tryz.results4) (by kernel_rfl) (by simp) (Sy.refl w) ?_
  simp (disch := omega) only [push_cast, Nat.reduceEqDiff, Fld.cells, Vl.cells]
  refine newI (fun b3 hb3 hn3 => ?_)
  simp (disch := omega) only [push_cast, Nat.reduceEqDiff, Fld.cells, Vl.cells]
  refine newI (fun b4 hb4 hn4 => ?_)
  simp (disch := omega) only [push_cast, Nat.reduceEqDiff, Fld.cells, Vl.cells]
  have hL : ∀ x y : Obj, ∀ p ∈ [(b4, x), (b3, y)], w.heap.size ≤ p.1 := fun x y p hp => by
    simp only [List.mem_cons, List.mem_nil_iff, or_false] at hp
    rcases hp with rfl | rfl
    · exact hb4
    · exact hb3
  refine callV en_12 (callX_new (fun w' hw' => parseV_walk w' (hs.mono hw' (hL _ _)) lo (hTb.mono hw' (hL _ _)) (hl.mono hw' (hL _ _)) (Nat.le_trans hlo hw'.size) fTa none 0 ⟨.nil _, Nat.le_refl _, by omega⟩ (by simp [Fld.nm]) [34, 98, 34] (by simp)) (fun u1 M1 hM1 hMn1 hu => ?_))
  rw [parse_Tb] at hu
  obtain ⟨its1, a1, c1, hZ1, rfl, rfl⟩ := hu
  obtain ⟨o3, ho3⟩ : ∃ o, o = (b3, Obj.cells #[str f.nm, .bool f.nl, i64 f.k, i64 f.wd, i64 f.id, i64 f.ix, .slice a f.sub.length c] 26 (0, 0)) := ⟨_, rfl⟩
  obtain ⟨o4, ho4⟩ : ∃ o, o = (b4, Obj.cells #[.bool v.nu, i64 v.num, str v.tx, .slice va v.ls.length vc] 29 (0, 0)) := ⟨_, rfl⟩
  simp (disch := omega) only [push_cast, Nat.reduceEqDiff, Vl.cells]
  refine newI (fun b7 hb7 hn7 => ?_)
  simp (disch := omega) only [push_cast, Nat.reduceEqDiff]
  refine storeX 0 rfl Siz.eq rfl rfl (by simp [Value.oneCell']) (by simp) ?_
  simp (disch := omega) only [push_cast, Nat.reduceEqDiff]
  refine ldOne Shp.eq mem0 rfl ?_
  simp (disch := omega) only [push_cast, Nat.reduceEqDiff]
  refine guardX_f rfl (fun _ => ?_) (fun h => absurd rfl h)
  simp (disch := omega) only [push_cast, Nat.reduceEqDiff]
  rw [V_cond]
  refine condX_b (b := false) (fun h => absurd h (by decide)) (fun _ => ?_)
  refine cutV (BkI w o3 o4 s) ?_ ?_
  · simp (disch := omega) only [push_cast, Nat.reduceEqDiff]
    refine ⟨rfl, rfl, rfl, by rw [ho3]; rfl, by rw [ho4]; rfl, by rw [ho3]; simp, by rw [ho4]; simp, fun p hp => ?_⟩
    rcases List.mem_cons.1 hp with rfl | hp
    · exact hb7
    · exact (List.mem_append.1 hp).elim (hM1 p) (hL _ _ p)
  clear hL hn3 hn4 hM1 hMn1 hn7
  rintro wb e ds L ⟨rfl, rfl, h2, h3, h4, m3, m4, hL⟩
  have m3' := m3
  have m4' := m4
  rw [ho3] at m3' h3
  rw [ho4] at m4' h4
  obtain ⟨pt, pe, hpr⟩ : ∃ pt pe, printP f v = (pt, pe) := ⟨_, _, rfl⟩
  obtain ⟨fi, hfi⟩ : ∃ fi, fitsP f v = fi := ⟨_, rfl⟩
  have hptl : pt.length ≤ 65536 := by have := printP_len f v; rw [hpr] at this; exact this
  simp (disch := omega) only [push_cast, Nat.reduceEqDiff, h3, h4]
  refine loadX_agg Shp.eq m3' rfl rfl ?_
  simp (disch := omega) only [push_cast, Nat.reduceEqDiff, h3, h4]
  refine loadX_agg Shp.eq m4' rfl rfl ?_
  simp (disch := omega) only [push_cast, Nat.reduceEqDiff, h3, h4]
  refine callV en_7 (callX_is (v := .tuple #[str pt, i64 pe]) (fun w' hw' => by
    have h := print_walk w' (hs.mono hw' hL) lo (hTb.mono hw' hL) (hl.mono hw' hL) (Nat.le_trans hlo hw'.size) f v a va c vc (hA.sy hlo hw' hL) hfn (hV.sy hlo hw' hL)
    rw [hpr] at h
    exact h) ?_)
  simp (disch := omega) only [push_cast, Nat.reduceEqDiff, h3, h4]
  refine loadX_agg Shp.eq m3' rfl rfl ?_
  simp (disch := omega) only [push_cast, Nat.reduceEqDiff, h3, h4]
  refine loadX_agg Shp.eq m4' rfl rfl ?_
  simp (disch := omega) only [push_cast, Nat.reduceEqDiff, h3, h4]
  refine callV en_16 (callX_is (v := i64 fi) (fun w' hw' => by
    rw [← hfi]
    exact fits_rung w' (hs.mono hw' hL) lo (hTb.mono hw' hL) (Nat.le_trans hlo hw'.size) f v a va c vc (hA.sy hlo hw' hL) hfn (hV.sy hlo hw' hL)) ?_)
  simp (disch := omega) only [push_cast, Nat.reduceEqDiff, h2, h3, h4]
  refine cutV (BkI wb o3 o4 s) ?_ ?_
  · rw [V_cond]
    simp (disch := omega) only [push_cast, Nat.reduceEqDiff, h2, h3, h4]
    refine condX_d (fun hp0 => ?_) (fun hp0 => ?_)
    · subst hp0
      obtain ⟨hf0, hpp⟩ := print_parse (hV.rng 64) hpr
      simp (disch := omega) only [push_cast, Nat.reduceEqDiff, h2, h3, h4]
      refine loadX_agg Shp.eq m3' rfl rfl ?_
      simp (disch := omega) only [push_cast, Nat.reduceEqDiff, h2, h3, h4]
      refine callV en_12 (callX_new (fun w' hw' => parseV_walk w' (hs.mono hw' hL) lo (hTb.mono hw' hL) (hl.mono hw' hL) (Nat.le_trans hlo hw'.size) f a c (hA.sy hlo hw' hL) hfn pt (by omega)) (fun u2 M2 hM2 hMn2 hu => ?_))
      rw [hpp] at hu
      obtain ⟨its2, a2, c2, hZ2, rfl, rfl⟩ := hu
      obtain rfl : fi = 0 := hfi.symm.trans hf0
      simp (disch := omega) only [push_cast, Nat.reduceEqDiff, Vl.cells]
      refine newI (fun b13 hb13 hn13 => ?_)
      simp (disch := omega) only [push_cast, Nat.reduceEqDiff]
      refine storeX 0 rfl Siz.eq rfl rfl (by simp [Value.oneCell']) (by simp) ?_
      simp (disch := omega) only [push_cast, Nat.reduceEqDiff, h4]
      refine loadX_agg Shp.eq (.tail _ (List.mem_append_right _ m4')) rfl rfl ?_
      simp (disch := omega) only [push_cast, Nat.reduceEqDiff, h4]
      refine loadX_agg Shp.eq mem0 rfl rfl ?_
      simp (disch := omega) only [push_cast, Nat.reduceEqDiff, h4]
      have hL13 : ∀ x : Obj, ∀ p ∈ (b13, x) :: (ownR its2 ++ L), wb.heap.size ≤ p.1 := fun x p hp => by
        rcases List.mem_cons.1 hp with rfl | hp
        · exact hb13
        · exact (List.mem_append.1 hp).elim (hM2 p) (hL p)
      refine callV en_17 (callX_is (v := .bool true) (fun w' hw' => by
        have h1 := hV.sy hlo hw' (hL13 _)
        have h := same_all _ w' w'.heap.size v v va a2 vc c2 (Nat.le_refl _) (Nat.le_refl _) ⟨h1.hr.weaken (Nat.le_trans hlo hw'.size), h1.hc, h1.hc2, h1.ht, h1.hn⟩ (TrV.at_ hw' v (ZeV.tr v hZ2) (fun p hp => .tail _ (List.mem_append_left _ hp)))
        rw [(sameV_iff v v).2 rfl] at h
        exact h) ?_)
      simp (disch := omega) only [push_cast, Nat.reduceEqDiff]
      refine guardX_f rfl (fun _ => ?_) (fun h => absurd (by simp) h)
      simp (disch := omega) only [push_cast, Nat.reduceEqDiff]
      refine guardX_f rfl (fun _ => ?_) (fun h => absurd (by simp) h)
      simp (disch := omega) only [push_cast, Nat.reduceEqDiff]
      refine guardX_f rfl (fun _ => ?_) (fun h => absurd (by simp) h)
      simp (disch := omega) only [push_cast, Nat.reduceEqDiff]
      rw [V_cond]
      refine condX_b (b := false) (fun h => absurd h (by decide)) (fun _ => ?_)
      simp (disch := omega) only [push_cast, Nat.reduceEqDiff]
      exact ⟨rfl, rfl, h2, by rw [ho3]; exact h3, by rw [ho4]; exact h4, .tail _ (List.mem_append_right _ m3), .tail _ (List.mem_append_right _ m4), hL13 _⟩
    · simp (disch := omega) only [push_cast, Nat.reduceEqDiff, h2, h3, h4]
      rw [V_cond]
      simp (disch := omega) only [push_cast, Nat.reduceEqDiff, h2, h3, h4]
      refine condX_d (fun hp4 => ?_) (fun hp4 => ?_)
      · have hf0 : fi = 0 := by
          rcases print_err (f := f) (v := v) with h | ⟨_, h⟩ | ⟨_, h, _⟩
          · rw [hpr] at h; exact absurd h hp0
          · exact hfi.symm.trans h
          · rw [hpr] at h; exact absurd hp4 h
        simp (disch := omega) only [push_cast, Nat.reduceEqDiff, h2, h3, h4]
        rw [V_cond]
        simp (disch := omega) only [push_cast, Nat.reduceEqDiff, h2, h3, h4]
        refine condX_d (fun h => absurd hf0 h) (fun _ => ?_)
        simp (disch := omega) only [push_cast, Nat.reduceEqDiff, h2, h3, h4]
        exact ⟨rfl, rfl, h2, by rw [ho3]; exact h3, by rw [ho4]; exact h4, m3, m4, hL⟩
      · have hff : pe = fi := by
          rcases print_err (f := f) (v := v) with h | ⟨h, _⟩ | ⟨_, _, h⟩
          · rw [hpr] at h; exact absurd h hp0
          · rw [hpr] at h; exact absurd h hp4
          · rw [hpr, hfi] at h; exact h
        simp (disch := omega) only [push_cast, Nat.reduceEqDiff, h2, h3, h4]
        rw [V_cond]
        simp (disch := omega) only [push_cast, Nat.reduceEqDiff, h2, h3, h4]
        refine condX_d (fun h => absurd hff h) (fun _ => ?_)
        simp (disch := omega) only [push_cast, Nat.reduceEqDiff, h2, h3, h4]
        exact ⟨rfl, rfl, h2, by rw [ho3]; exact h3, by rw [ho4]; exact h4, m3, m4, hL⟩
  clear h2 h3 h4 m3' m4' m3 m4 hL e
  rintro wb e ds L ⟨rfl, rfl, h2, h3, h4, m3, m4, hL⟩
  have m3' := m3
  have m4' := m4
  rw [ho3] at m3' h3
  rw [ho4] at m4' h4
  clear hpr hfi hptl
  obtain ⟨x, g, at_, hpx⟩ : ∃ x g at_, parseVP f s = (x, g, at_) := ⟨_, _, _, rfl⟩
  have hpl := parse_place (f := f) (s := s)
  rw [hpx] at hpl
  replace hpl : at_ ≤ s.length := hpl
  simp (disch := omega) only [push_cast, Nat.reduceEqDiff, h2, h3, h4]
  refine loadX_agg Shp.eq m3' rfl rfl ?_
  simp (disch := omega) only [push_cast, Nat.reduceEqDiff, h2, h3, h4]
  refine callV en_12 (callX_new (fun w' hw' => parseV_walk w' (hs.mono hw' hL) lo (hTb.mono hw' hL) (hl.mono hw' hL) (Nat.le_trans hlo hw'.size) f a c (hA.sy hlo hw' hL) hfn s hsl) (fun u3 M3 hM3 hMn3 hu => ?_))
  rw [hpx] at hu
  obtain ⟨its3, a3, c3, hZ3, rfl, rfl⟩ := hu
  simp (disch := omega) only [push_cast, Nat.reduceEqDiff, h2, h3, Vl.cells]
  refine newI (fun b17 hb17 hn17 => ?_)
  simp (disch := omega) only [push_cast, Nat.reduceEqDiff, h2, h3]
  refine storeX 0 rfl Siz.eq rfl rfl (by simp [Value.oneCell']) (by simp) ?_
  simp (disch := omega) only [push_cast, Nat.reduceEqDiff, h2, h3]
  have hL17 : ∀ y : Obj, ∀ p ∈ (b17, y) :: (ownR its3 ++ L), wb.heap.size ≤ p.1 := fun y p hp => by
    rcases List.mem_cons.1 hp with rfl | hp
    · exact hb17
    · exact (List.mem_append.1 hp).elim (hM3 p) (hL p)
  rw [V_cond]
  simp (disch := omega) only [push_cast, Nat.reduceEqDiff, h2, h3]
  refine condX_d (fun hg => ?_) (fun hg => ?_)
  · simp (disch := omega) only [push_cast, Nat.reduceEqDiff, h2, h3]
    refine guardX_t rfl (fun _ => ?_) (fun h => absurd (by omega) h)
    simp (disch := omega) only [push_cast, Nat.reduceEqDiff, h2, h3]
    exact finIs (hL17 _) (by rw [decide_eq_true (by omega)])
  obtain rfl : g = 0 := Decidable.not_not.1 hg
  obtain ⟨hpp, hff⟩ := parse_print hpx
  simp (disch := omega) only [push_cast, Nat.reduceEqDiff, h2, h3]
  refine loadX_agg Shp.eq (.tail _ (List.mem_append_right _ m3')) rfl rfl ?_
  simp (disch := omega) only [push_cast, Nat.reduceEqDiff, h2, h3]
  refine loadX_agg Shp.eq mem0 rfl rfl ?_
  simp (disch := omega) only [push_cast, Nat.reduceEqDiff, h2, h3]
  have hF : ∀ {y : Obj} {w'}, Sy wb ((b17, y) :: (ownR its3 ++ L)) w' → FlAt w' w'.heap.size f a c := fun {y w'} hw' => by
    have h1 := hA.sy hlo hw' (hL17 _)
    exact ⟨h1.hr.weaken (Nat.le_trans hlo hw'.size), h1.hc, h1.hc2⟩
  have hX : ∀ {y : Obj} {w'}, Sy wb ((b17, y) :: (ownR its3 ++ L)) w' → VAt w' w'.heap.size x a3 c3 := fun {y w'} hw' => TrV.at_ hw' x (ZeV.tr x hZ3) (fun p hp => .tail _ (List.mem_append_left _ hp))
  refine callV en_7 (callX_is (v := .tuple #[str s, i64 0]) (fun w' hw' => by
    have h := print_walk w' (hs.mono hw' (hL17 _)) w'.heap.size (hTb.mono hw' (hL17 _)) (hl.mono hw' (hL17 _)) (Nat.le_refl _) f x a a3 c c3 (hF hw') hfn (hX hw')
    rw [hpp] at h
    exact h) ?_)
  simp (disch := omega) only [push_cast, Nat.reduceEqDiff, h2, h3]
  refine guardX_t rfl (fun _ => ?_) (fun h => absurd (by simp) h)
  simp (disch := omega) only [push_cast, Nat.reduceEqDiff, h2, h3]
  refine guardX_t rfl (fun _ => ?_) (fun h => absurd (by simp) h)
  simp (disch := omega) only [push_cast, Nat.reduceEqDiff, h2, h3]
  refine loadX_agg Shp.eq (.tail _ (List.mem_append_right _ m3')) rfl rfl ?_
  simp (disch := omega) only [push_cast, Nat.reduceEqDiff, h2, h3]
  refine loadX_agg Shp.eq mem0 rfl rfl ?_
  simp (disch := omega) only [push_cast, Nat.reduceEqDiff, h2, h3]
  refine callV en_16 (callX_is (v := i64 0) (fun w' hw' => by
    have h := fits_rung w' (hs.mono hw' (hL17 _)) w'.heap.size (hTb.mono hw' (hL17 _)) (Nat.le_refl _) f x a a3 c c3 (hF hw') hfn (hX hw')
    rw [hff] at h
    exact h) ?_)
  simp (disch := omega) only [push_cast, Nat.reduceEqDiff, h2, h3]
  exact finIs (hL17 _) (by simp)
end Go.Proofs.YtilejcofleeeiaaGreatDoor
