/- YtgbafmjgfbgeoaaDoor: walks, part 32: the reference's: are two lists of fields alike? -/
import Derived.Test.YtgbafmjgfbgeoaaDoorW31
import Derived.Test.YtgbafmjgfbgeoaaDoorW25
namespace Go.Proofs.YtgbafmjgfbgeoaaDoor
open Go Go.K
set_option maxRecDepth 100000
set_option linter.unusedVariables false
set_option linter.unusedSimpArgs false
set_option maxHeartbeats 4000000
/-- What is read of a node that lies. -/
theorem NodesC.at {wb : World} {lo : Nat} {A : Own} {ns : List FNode} {xs cs : List Value} (hno : NodesC wb lo A ns xs) (hcs : cs.take (ns.length * 10) = xs) {i : Nat} {x : FNode} (hx : ns[i]? = some x) :
    ∃ pb fa fc, cs[i * 10]? = some (.slice (some ⟨pb, 0, none⟩) x.path.length x.path.length) ∧ cs[i * 10 + 1]? = some (str x.f.nm) ∧ (cs.drop (i * 10 + 1)).take 7 = [str x.f.nm, .bool x.f.nl, i64 x.f.k, i64 x.f.wd, i64 x.f.id, i64 x.f.ix, .slice fa x.f.sub.length fc] ∧ x.path.length ≤ 65 ∧ x.f.nm.length ≤ 9223372036854775807 ∧ x.f.sub.length ≤ 9223372036854775807 := by
  have hil := (List.getElem?_eq_some_iff.1 hx).1
  obtain ⟨ci, hci, htk⟩ := hno.get i hx
  obtain ⟨pb, fa, aa, fc, ac, rfl, hpm, hpb, hp65, _, hfc, hfc2, hnm, _⟩ := hci
  rw [← hcs, take_sub _ _ _ _ (by omega)] at htk
  refine ⟨pb, fa, fc, ?_, ?_, ?_, hp65, hnm, by omega⟩
  · have h9 := congrArg (·[0]?) htk
    simpa [List.getElem?_take, List.getElem?_drop] using h9
  · have h9 := congrArg (·[1]?) htk
    simpa [List.getElem?_take, List.getElem?_drop] using h9
  · have h9 := congrArg (fun l => (l.drop 1).take 7) htk
    simp only [List.drop_take, List.take_take, List.drop_drop] at h9
    simpa using h9
theorem alikeN_false {names : Bool} {a b : Nat} {ns ms : List FNode} {k : Nat} {x y : FNode} (hx : ns[k]? = some x) (hy : ms[k]? = some y) (h : testN names x y = false) : alikeN names a b ns ms = false := by
  cases h1 : alikeN names a b ns ms with
  | false => rfl
  | true =>
    simp only [alikeN, Bool.and_eq_true, decide_eq_true_eq] at h1
    rw [(zip_all h1.1.2).1 h1.2 k x y hx hy] at h
    cases h
theorem alikeN_true {names : Bool} {a b : Nat} {ns ms : List FNode} (hab : a = b) (hl : ns.length = ms.length) (h : ∀ (j : Nat) (x y : FNode), ns[j]? = some x → ms[j]? = some y → testN names x y = true) : alikeN names a b ns ms = true := by
  simp only [alikeN, Bool.and_eq_true, decide_eq_true_eq]
  exact ⟨⟨hab, hl⟩, (zip_all hl).2 h⟩
theorem testN_of {names : Bool} {x y : FNode} (h : sameNd x.f y.f = true) (h2 : names = false ∧ ¬ 1 < x.path.length ∨ x.f.nm = y.f.nm) : testN names x y = true := by
  unfold testN
  rcases h2 with ⟨rfl, h2⟩ | h2
  · rw [h, decide_eq_false h2]; rfl
  · rw [h, decide_eq_true h2]; simp
theorem testN_no {names : Bool} {x y : FNode} (h : sameNd x.f y.f = false) : testN names x y = false := by
  unfold testN; rw [h]; rfl
theorem testN_nm {names : Bool} {x y : FNode} (h : names = true ∨ 1 < x.path.length) (h2 : ¬ x.f.nm = y.f.nm) : testN names x y = false := by
  unfold testN
  rw [decide_eq_false h2]
  rcases h with rfl | h
  · simp
  · rw [decide_eq_true h]; simp
/-- The row of nodes that grow tells: where it lies. -/
theorem row_block {wb : World} {L' A M : Own} {va : Option Addr} {vc : Nat} {n : Nat} {xs : List Value} (hro : RowO wb 41 10 L' (A ++ M) (.slice va n vc) n xs) (hn : 0 < n) :
    ∃ (rb : Nat) (cs : List Value), va = some ⟨rb, 0, none⟩ ∧ (rb, Obj.cells cs.toArray 41 (0, 0)) ∈ L' ∧ cs.take (n * 10) = xs ∧ n ≤ vc := by
  obtain ⟨hxl, ⟨h1, h2, h3⟩ | ⟨rb, cap, cs, h1, h2, h3, h4, h5, h6, h7⟩⟩ := hro
  · omega
  · injection h1 with q1 q2 q3
    exact ⟨rb, cs, q1, by rw [h2]; exact .head _, h7, by omega⟩
structure AlkI (w : World) (names : Bool) (L0 : Own) (ns ms : List FNode) (va va' : Option Addr) (vc vc' : Nat) (i : Nat) (wb : World) (e : Env) (ds : List Deferred) (L : Own) : Prop where
  hw : wb = w
  hds : ds = []
  o : L = L0
  il : i ≤ ns.length
  no : ∀ j, j < i → ∀ x y, ns[j]? = some x → ms[j]? = some y → testN names x y = true
  h2 : e 2 = .bool names
  h7 : e 7 = .slice va ns.length vc
  h8 : e 8 = .slice va' ms.length vc'
  h28 : e 28 = i64 ns.length
  h29 : e 29 = i64 i
structure AlkJ (w : World) (names nm : Bool) (L0 : Own) (ns ms : List FNode) (va va' : Option Addr) (vc vc' : Nat) (i : Nat) (wb : World) (e : Env) (ds : List Deferred) (L : Own) : Prop where
  hw : wb = w
  hds : ds = []
  o : L = L0
  h2 : e 2 = .bool names
  h7 : e 7 = .slice va ns.length vc
  h8 : e 8 = .slice va' ms.length vc'
  h9 : e 9 = i64 i
  h10 : e 10 = .bool nm
  h28 : e 28 = i64 ns.length
  h29 : e 29 = i64 i
theorem alikeR_walk (w : World) (lo : Nat) (hlo : lo ≤ w.heap.size) (l m : List Fld) (a a' : Option Addr) (c c' : Nat) (hr : Rd w lo a l) (hr' : Rd w lo a' m) (hc : l.length ≤ c) (hc2 : c ≤ 9223372036854775807) (hc' : m.length ≤ c') (hc2' : c' ≤ 9223372036854775807) (names : Bool) :
    Calls Tryd.prog 49 #[.slice a l.length c, .slice a' m.length c', .bool names] w (Rets w (Is (.bool (alikeN names l.length m.length ((nd 65 [] false l).take 257) ((nd 65 [] false m).take 257))))) := by
  refine enterT (args := [.slice a l.length c, .slice a' m.length c', .bool names]) Tryd.func49 rfl Tryd.ntmps49 (congrArg Array.toList Tryd.results49) (by kernel_rfl) (by simp) (Sy.refl w) ?_
  simp (disch := omega) only [push_cast, Nat.reduceEqDiff]
  repeat' (first | ((first | refine guardX_t rfl (fun h => ?_) (fun h => ?_) | refine guardX_f rfl (fun h => ?_) (fun h => ?_) | refine condX_d (fun h => ?_) (fun h => ?_) | (refine guardX_bt rfl (fun h => ?_) (fun h => ?_) <;> (try subst h)) | (refine guardX_bf rfl (fun h => ?_) (fun h => ?_) <;> (try subst h)) | (refine condX_b (fun h => ?_) (fun h => ?_) <;> (try subst h)) | refine ldOne Shp.eq (by (first | exact mem0 | exact mem1 | exact mem2 | exact mem3 | exact mem4 | exact mem5)) rfl ?_ | refine loadX_agg Shp.eq (by (first | exact mem0 | exact mem1 | exact mem2 | exact mem3 | exact mem4 | exact mem5)) rfl rfl ?_ | refine newI (fun b hb hn => ?_) | refine storeX 0 rfl Siz.eq rfl rfl (by simp [Value.oneCell']) (by simp) ?_ | refine storeX 1 rfl Siz.eq rfl rfl (by simp [Value.oneCell']) (by simp) ?_ | refine storeX 2 rfl Siz.eq rfl rfl (by simp [Value.oneCell']) (by simp) ?_ | refine storeX 3 rfl Siz.eq rfl rfl (by simp [Value.oneCell']) (by simp) ?_ | refine storeX 4 rfl Siz.eq rfl rfl (by simp [Value.oneCell']) (by simp) ?_ | refine storeX 5 rfl Siz.eq rfl rfl (by simp [Value.oneCell']) (by simp) ?_ | refine storeX 6 rfl Siz.eq rfl rfl (by simp [Value.oneCell']) (by simp) ?_) <;> simp (disch := omega) only [push_cast, Nat.reduceEqDiff]))
  refine callV en_36 (callX_own (fun w' hw' => grow_ok 64 w w' _ [] _ lo (.slice none 0 0) [] [] [] (.slice none 0 0) l a c false hw' hlo (by simp) ⟨rfl, .inl ⟨rfl, rfl, rfl⟩⟩ rfl (by simp) ⟨rfl, .inl ⟨rfl, rfl⟩⟩ rfl hr hc hc2) (fun v1 L1 hS => ?_))
  obtain ⟨A1, xs1, hro1, hno1, hA1, _⟩ := hS
  rw [List.nil_append] at hro1 hno1
  simp (disch := omega) only [push_cast, Nat.reduceEqDiff]
  repeat' (first | ((first | refine guardX_t rfl (fun h => ?_) (fun h => ?_) | refine guardX_f rfl (fun h => ?_) (fun h => ?_) | refine condX_d (fun h => ?_) (fun h => ?_) | (refine guardX_bt rfl (fun h => ?_) (fun h => ?_) <;> (try subst h)) | (refine guardX_bf rfl (fun h => ?_) (fun h => ?_) <;> (try subst h)) | (refine condX_b (fun h => ?_) (fun h => ?_) <;> (try subst h)) | refine ldOne Shp.eq (by (first | exact mem0 | exact mem1 | exact mem2 | exact mem3 | exact mem4 | exact mem5)) rfl ?_ | refine loadX_agg Shp.eq (by (first | exact mem0 | exact mem1 | exact mem2 | exact mem3 | exact mem4 | exact mem5)) rfl rfl ?_ | refine newI (fun b hb hn => ?_) | refine storeX 0 rfl Siz.eq rfl rfl (by simp [Value.oneCell']) (by simp) ?_ | refine storeX 1 rfl Siz.eq rfl rfl (by simp [Value.oneCell']) (by simp) ?_ | refine storeX 2 rfl Siz.eq rfl rfl (by simp [Value.oneCell']) (by simp) ?_ | refine storeX 3 rfl Siz.eq rfl rfl (by simp [Value.oneCell']) (by simp) ?_ | refine storeX 4 rfl Siz.eq rfl rfl (by simp [Value.oneCell']) (by simp) ?_ | refine storeX 5 rfl Siz.eq rfl rfl (by simp [Value.oneCell']) (by simp) ?_ | refine storeX 6 rfl Siz.eq rfl rfl (by simp [Value.oneCell']) (by simp) ?_) <;> simp (disch := omega) only [push_cast, Nat.reduceEqDiff]))
  have hL1 : ∀ p ∈ L1, w.heap.size ≤ p.1 := hro1.new (fun p hp => hA1 p (by simpa using hp))
  refine callV en_36 (callX_own (fun w' hw' => grow_ok 64 w w' L1 [] L1 lo (.slice none 0 0) [] [] [] (.slice none 0 0) m a' c' false hw' hlo hL1 ⟨rfl, .inl ⟨rfl, rfl, rfl⟩⟩ rfl (by simp) ⟨rfl, .inl ⟨rfl, rfl⟩⟩ rfl hr' hc' hc2') (fun v2 L2 hS => ?_))
  obtain ⟨A2, xs2, hro2, hno2, hA2, _⟩ := hS
  rw [List.nil_append] at hro2 hno2
  generalize hns : (nd 65 [] false l).take 257 = ns at hro1 hno1 ⊢
  generalize hms : (nd 65 [] false m).take 257 = ms at hro2 hno2 ⊢
  have hnl : ns.length ≤ 257 := by rw [← hns]; exact List.length_take_le _ _
  have hml : ms.length ≤ 257 := by rw [← hms]; exact List.length_take_le _ _
  obtain ⟨va, vc, rfl⟩ := hro1.is_slice
  obtain ⟨va', vc', rfl⟩ := hro2.is_slice
  have hL2 : ∀ p ∈ L2, w.heap.size ≤ p.1 := hro2.new (fun p hp => by
    rcases List.mem_append.1 hp with hp | hp
    · exact hA2 p hp
    · exact hL1 p hp)
  have hb1 : 0 < ns.length → ∃ (rb : Nat) (cs : List Value), va = some ⟨rb, 0, none⟩ ∧ (rb, Obj.cells cs.toArray 41 (0, 0)) ∈ L2 ∧ cs.take (ns.length * 10) = xs1 ∧ ns.length ≤ vc := fun h => by
    obtain ⟨rb, cs, q1, q2, q3, q4⟩ := row_block hro1 h
    exact ⟨rb, cs, q1, hro2.mem (List.mem_append_right _ q2), q3, q4⟩
  have hb2 := fun h => row_block hro2 h
  simp (disch := omega) only [push_cast, Nat.reduceEqDiff]
  repeat' (first | ((first | refine guardX_t rfl (fun h => ?_) (fun h => ?_) | refine guardX_f rfl (fun h => ?_) (fun h => ?_) | refine condX_d (fun h => ?_) (fun h => ?_) | (refine guardX_bt rfl (fun h => ?_) (fun h => ?_) <;> (try subst h)) | (refine guardX_bf rfl (fun h => ?_) (fun h => ?_) <;> (try subst h)) | (refine condX_b (fun h => ?_) (fun h => ?_) <;> (try subst h)) | refine ldOne Shp.eq (by (first | exact mem0 | exact mem1 | exact mem2 | exact mem3 | exact mem4 | exact mem5)) rfl ?_ | refine loadX_agg Shp.eq (by (first | exact mem0 | exact mem1 | exact mem2 | exact mem3 | exact mem4 | exact mem5)) rfl rfl ?_ | refine newI (fun b hb hn => ?_) | refine storeX 0 rfl Siz.eq rfl rfl (by simp [Value.oneCell']) (by simp) ?_ | refine storeX 1 rfl Siz.eq rfl rfl (by simp [Value.oneCell']) (by simp) ?_ | refine storeX 2 rfl Siz.eq rfl rfl (by simp [Value.oneCell']) (by simp) ?_ | refine storeX 3 rfl Siz.eq rfl rfl (by simp [Value.oneCell']) (by simp) ?_ | refine storeX 4 rfl Siz.eq rfl rfl (by simp [Value.oneCell']) (by simp) ?_ | refine storeX 5 rfl Siz.eq rfl rfl (by simp [Value.oneCell']) (by simp) ?_ | refine storeX 6 rfl Siz.eq rfl rfl (by simp [Value.oneCell']) (by simp) ?_) <;> simp (disch := omega) only [push_cast, Nat.reduceEqDiff]))
  rotate_left
  · rw [V_cond]
    simp (disch := omega) only [push_cast, Nat.reduceEqDiff]
    refine finIs hL2 ?_
    simp only [alikeN]
    rw [decide_eq_false (by omega : ¬ l.length = m.length)]
    rfl
  rename_i hlm
  rw [V_cond]
  simp (disch := omega) only [push_cast, Nat.reduceEqDiff]
  refine condX_d (fun hne => ?_) (fun heq => ?_)
  · simp (disch := omega) only [push_cast, Nat.reduceEqDiff]
    refine finIs hL2 ?_
    simp only [alikeN]
    rw [decide_eq_false (by omega : ¬ ns.length = ms.length), Bool.and_false]
    rfl
  have hlen : ns.length = ms.length := by omega
  have hlm' : l.length = m.length := by omega
  simp (disch := omega) only [push_cast, Nat.reduceEqDiff]
  repeat' (first | ((first | refine guardX_t rfl (fun h => ?_) (fun h => ?_) | refine guardX_f rfl (fun h => ?_) (fun h => ?_) | refine condX_d (fun h => ?_) (fun h => ?_) | (refine guardX_bt rfl (fun h => ?_) (fun h => ?_) <;> (try subst h)) | (refine guardX_bf rfl (fun h => ?_) (fun h => ?_) <;> (try subst h)) | (refine condX_b (fun h => ?_) (fun h => ?_) <;> (try subst h)) | refine ldOne Shp.eq (by (first | exact mem0 | exact mem1 | exact mem2 | exact mem3 | exact mem4 | exact mem5)) rfl ?_ | refine loadX_agg Shp.eq (by (first | exact mem0 | exact mem1 | exact mem2 | exact mem3 | exact mem4 | exact mem5)) rfl rfl ?_ | refine newI (fun b hb hn => ?_) | refine storeX 0 rfl Siz.eq rfl rfl (by simp [Value.oneCell']) (by simp) ?_ | refine storeX 1 rfl Siz.eq rfl rfl (by simp [Value.oneCell']) (by simp) ?_ | refine storeX 2 rfl Siz.eq rfl rfl (by simp [Value.oneCell']) (by simp) ?_ | refine storeX 3 rfl Siz.eq rfl rfl (by simp [Value.oneCell']) (by simp) ?_ | refine storeX 4 rfl Siz.eq rfl rfl (by simp [Value.oneCell']) (by simp) ?_ | refine storeX 5 rfl Siz.eq rfl rfl (by simp [Value.oneCell']) (by simp) ?_ | refine storeX 6 rfl Siz.eq rfl rfl (by simp [Value.oneCell']) (by simp) ?_) <;> simp (disch := omega) only [push_cast, Nat.reduceEqDiff]))
  rw [V_block]
  simp (disch := omega) only [push_cast, Nat.reduceEqDiff]
  refine loopT (G := Nat) (AlkI w names L2 ns ms va va' vc vc') (fun i => ns.length - i) 0 (by kernel_rfl) ⟨rfl, rfl, rfl, by omega, by omega, rfl, rfl, rfl, rfl, rfl⟩ ?_
  rintro i wb e ds L ⟨rfl, rfl, rfl, hil, hno, h2, h7, h8, h28, h29⟩
  simp (disch := omega) only [push_cast, Nat.reduceEqDiff, h2, h7, h8, h28, h29]
  rw [V_cond]
  simp (disch := omega) only [push_cast, Nat.reduceEqDiff, h2, h7, h8, h28, h29]
  refine condX_d (fun hlt => ?_) (fun hge => ?_)
  · obtain ⟨x, hx⟩ : ∃ x, ns[i]? = some x := ⟨_, List.getElem?_eq_getElem (by omega)⟩
    obtain ⟨y, hy⟩ : ∃ y, ms[i]? = some y := ⟨_, List.getElem?_eq_getElem (by omega)⟩
    obtain ⟨rb, cs, rfl, hm1, hcs, hvc⟩ := hb1 (by omega)
    obtain ⟨rb', cs', rfl, hm2, hcs', hvc'⟩ := hb2 (by omega)
    obtain ⟨pb, fa, fc, z1, z2, z3, z4, z5, z6⟩ := hno1.at hcs hx
    obtain ⟨pb', fa', fc', y1, y2, y3, y4, y5, y6⟩ := hno2.at hcs' hy
    simp (disch := omega) only [push_cast, Nat.reduceEqDiff, h2, h7, h8, h28, h29]
    rw [V_block]
    simp (disch := omega) only [push_cast, Nat.reduceEqDiff, h2, h7, h8, h28, h29]
    refine guardX_bf rfl (fun h => ?_) (fun h => ?_)
    · subst h
      simp (disch := omega) only [push_cast, Nat.reduceEqDiff, h2, h7, h8, h28, h29]
      refine ldOne Shp.eq hm1 (by simpa using z1) ?_
      simp (disch := omega) only [push_cast, Nat.reduceEqDiff, h2, h7, h8, h28, h29]
      refine drawQT (by kernel_rfl) (by kernel_rfl) mixed (by kernel_rfl) ?_
      simp (disch := omega) only [push_cast, Nat.reduceEqDiff, h2, h7, h8, h28, h29]
      refine loadX_agg Shp.eq hm1 (by simpa using z3) rfl ?_
      simp (disch := omega) only [push_cast, Nat.reduceEqDiff, h2, h7, h8, h28, h29]
      refine loadX_agg Shp.eq hm2 (by simpa using y3) rfl ?_
      simp (disch := omega) only [push_cast, Nat.reduceEqDiff, h2, h7, h8, h28, h29]
      refine qcallV en_67 (qcallX_is _ (fun w' hw' => sameNode_walk w' x.f y.f fa fa' fc fc') ?_)
      simp (disch := omega) only [push_cast, Nat.reduceEqDiff, h2, h7, h8, h28, h29]
      rcases hsn : sameNd x.f y.f with _ | _
      · simp only [Bool.not_false]
        simp (disch := omega) only [push_cast, Nat.reduceEqDiff, h2, h7, h8, h28, h29]
        repeat' (first | ((first | refine guardX_t rfl (fun h => ?_) (fun h => ?_) | refine guardX_f rfl (fun h => ?_) (fun h => ?_) | refine condX_d (fun h => ?_) (fun h => ?_) | (refine guardX_bt rfl (fun h => ?_) (fun h => ?_) <;> (try subst h)) | (refine guardX_bf rfl (fun h => ?_) (fun h => ?_) <;> (try subst h)) | (refine condX_b (fun h => ?_) (fun h => ?_) <;> (try subst h)) | refine ldOne Shp.eq (by (first | exact mem0 | exact mem1 | exact mem2 | exact mem3 | exact mem4 | exact mem5)) rfl ?_ | refine loadX_agg Shp.eq (by (first | exact mem0 | exact mem1 | exact mem2 | exact mem3 | exact mem4 | exact mem5)) rfl rfl ?_ | refine newI (fun b hb hn => ?_) | refine storeX 0 rfl Siz.eq rfl rfl (by simp [Value.oneCell']) (by simp) ?_ | refine storeX 1 rfl Siz.eq rfl rfl (by simp [Value.oneCell']) (by simp) ?_ | refine storeX 2 rfl Siz.eq rfl rfl (by simp [Value.oneCell']) (by simp) ?_ | refine storeX 3 rfl Siz.eq rfl rfl (by simp [Value.oneCell']) (by simp) ?_ | refine storeX 4 rfl Siz.eq rfl rfl (by simp [Value.oneCell']) (by simp) ?_ | refine storeX 5 rfl Siz.eq rfl rfl (by simp [Value.oneCell']) (by simp) ?_ | refine storeX 6 rfl Siz.eq rfl rfl (by simp [Value.oneCell']) (by simp) ?_) <;> simp (disch := omega) only [push_cast, Nat.reduceEqDiff, h2, h7, h8, h28, h29]))
        rw [V_cond]
        simp (disch := omega) only [push_cast, Nat.reduceEqDiff, h2, h7, h8, h28, h29]
        exact finIs hL2 (by rw [alikeN_false hx hy (testN_no hsn)])
      · simp only [Bool.not_true]
        simp (disch := omega) only [push_cast, Nat.reduceEqDiff, h2, h7, h8, h28, h29]
        refine guardX_t rfl (fun hp => ?_) (fun hp => ?_)
        rotate_left
        · simp (disch := omega) only [push_cast, Nat.reduceEqDiff, h2, h7, h8, h28, h29]
          rw [V_cond]
          simp (disch := omega) only [push_cast, Nat.reduceEqDiff, h2, h7, h8, h28, h29]
          exact ⟨i + 1, ⟨rfl, rfl, rfl, by omega, fun j hj x' y' hx' hy' => by
              rcases Nat.lt_or_ge j i with hji | hji
              · exact hno j hji x' y' hx' hy'
              · obtain rfl : j = i := by omega
                rw [hx] at hx'; rw [hy] at hy'
                cases hx'; cases hy'
                exact testN_of hsn (.inl ⟨rfl, by omega⟩), h2, h7, h8, h28, by simp only [upd]; rfl⟩, by omega⟩
        simp (disch := omega) only [push_cast, Nat.reduceEqDiff, h2, h7, h8, h28, h29]
        refine ldOne Shp.eq hm1 (by simpa using z2) ?_
        simp (disch := omega) only [push_cast, Nat.reduceEqDiff, h2, h7, h8, h28, h29]
        refine ldOne Shp.eq hm2 (by simpa using y2) ?_
        simp (disch := omega) only [push_cast, Nat.reduceEqDiff, h2, h7, h8, h28, h29]
        rw [V_cond]
        simp (disch := omega) only [push_cast, Nat.reduceEqDiff, h2, h7, h8, h28, h29]
        refine condX_d (fun hnm => ?_) (fun hnm => ?_)
        · simp (disch := omega) only [push_cast, Nat.reduceEqDiff, h2, h7, h8, h28, h29]
          exact finIs hL2 (by rw [alikeN_false hx hy (testN_nm (.inr (by omega)) hnm)])
        · simp (disch := omega) only [push_cast, Nat.reduceEqDiff, h2, h7, h8, h28, h29]
          exact ⟨i + 1, ⟨rfl, rfl, rfl, by omega, fun j hj x' y' hx' hy' => by
              rcases Nat.lt_or_ge j i with hji | hji
              · exact hno j hji x' y' hx' hy'
              · obtain rfl : j = i := by omega
                rw [hx] at hx'; rw [hy] at hy'
                cases hx'; cases hy'
                exact testN_of hsn (.inr (Decidable.not_not.1 hnm)), h2, h7, h8, h28, by simp only [upd]; rfl⟩, by omega⟩
    · have hnt : names = true := by simpa using h
      subst hnt
      simp (disch := omega) only [push_cast, Nat.reduceEqDiff, h2, h7, h8, h28, h29]
      refine drawQT (by kernel_rfl) (by kernel_rfl) mixed (by kernel_rfl) ?_
      simp (disch := omega) only [push_cast, Nat.reduceEqDiff, h2, h7, h8, h28, h29]
      refine loadX_agg Shp.eq hm1 (by simpa using z3) rfl ?_
      simp (disch := omega) only [push_cast, Nat.reduceEqDiff, h2, h7, h8, h28, h29]
      refine loadX_agg Shp.eq hm2 (by simpa using y3) rfl ?_
      simp (disch := omega) only [push_cast, Nat.reduceEqDiff, h2, h7, h8, h28, h29]
      refine qcallV en_67 (qcallX_is _ (fun w' hw' => sameNode_walk w' x.f y.f fa fa' fc fc') ?_)
      simp (disch := omega) only [push_cast, Nat.reduceEqDiff, h2, h7, h8, h28, h29]
      rcases hsn : sameNd x.f y.f with _ | _
      · simp only [Bool.not_false]
        simp (disch := omega) only [push_cast, Nat.reduceEqDiff, h2, h7, h8, h28, h29]
        repeat' (first | ((first | refine guardX_t rfl (fun h => ?_) (fun h => ?_) | refine guardX_f rfl (fun h => ?_) (fun h => ?_) | refine condX_d (fun h => ?_) (fun h => ?_) | (refine guardX_bt rfl (fun h => ?_) (fun h => ?_) <;> (try subst h)) | (refine guardX_bf rfl (fun h => ?_) (fun h => ?_) <;> (try subst h)) | (refine condX_b (fun h => ?_) (fun h => ?_) <;> (try subst h)) | refine ldOne Shp.eq (by (first | exact mem0 | exact mem1 | exact mem2 | exact mem3 | exact mem4 | exact mem5)) rfl ?_ | refine loadX_agg Shp.eq (by (first | exact mem0 | exact mem1 | exact mem2 | exact mem3 | exact mem4 | exact mem5)) rfl rfl ?_ | refine newI (fun b hb hn => ?_) | refine storeX 0 rfl Siz.eq rfl rfl (by simp [Value.oneCell']) (by simp) ?_ | refine storeX 1 rfl Siz.eq rfl rfl (by simp [Value.oneCell']) (by simp) ?_ | refine storeX 2 rfl Siz.eq rfl rfl (by simp [Value.oneCell']) (by simp) ?_ | refine storeX 3 rfl Siz.eq rfl rfl (by simp [Value.oneCell']) (by simp) ?_ | refine storeX 4 rfl Siz.eq rfl rfl (by simp [Value.oneCell']) (by simp) ?_ | refine storeX 5 rfl Siz.eq rfl rfl (by simp [Value.oneCell']) (by simp) ?_ | refine storeX 6 rfl Siz.eq rfl rfl (by simp [Value.oneCell']) (by simp) ?_) <;> simp (disch := omega) only [push_cast, Nat.reduceEqDiff, h2, h7, h8, h28, h29]))
        rw [V_cond]
        simp (disch := omega) only [push_cast, Nat.reduceEqDiff, h2, h7, h8, h28, h29]
        exact finIs hL2 (by rw [alikeN_false hx hy (testN_no hsn)])
      · simp only [Bool.not_true]
        simp (disch := omega) only [push_cast, Nat.reduceEqDiff, h2, h7, h8, h28, h29]
        refine ldOne Shp.eq hm1 (by simpa using z2) ?_
        simp (disch := omega) only [push_cast, Nat.reduceEqDiff, h2, h7, h8, h28, h29]
        refine ldOne Shp.eq hm2 (by simpa using y2) ?_
        simp (disch := omega) only [push_cast, Nat.reduceEqDiff, h2, h7, h8, h28, h29]
        rw [V_cond]
        simp (disch := omega) only [push_cast, Nat.reduceEqDiff, h2, h7, h8, h28, h29]
        refine condX_d (fun hnm => ?_) (fun hnm => ?_)
        · simp (disch := omega) only [push_cast, Nat.reduceEqDiff, h2, h7, h8, h28, h29]
          exact finIs hL2 (by rw [alikeN_false hx hy (testN_nm (.inl rfl) hnm)])
        · simp (disch := omega) only [push_cast, Nat.reduceEqDiff, h2, h7, h8, h28, h29]
          exact ⟨i + 1, ⟨rfl, rfl, rfl, by omega, fun j hj x' y' hx' hy' => by
              rcases Nat.lt_or_ge j i with hji | hji
              · exact hno j hji x' y' hx' hy'
              · obtain rfl : j = i := by omega
                rw [hx] at hx'; rw [hy] at hy'
                cases hx'; cases hy'
                exact testN_of hsn (.inr (Decidable.not_not.1 hnm)), h2, h7, h8, h28, by simp only [upd]; rfl⟩, by omega⟩
  · simp (disch := omega) only [push_cast, Nat.reduceEqDiff, h2, h7, h8, h28, h29]
    exact finIs hL2 (by rw [alikeN_true hlm' hlen (fun j x y hx hy => hno j (by have := (List.getElem?_eq_some_iff.1 hx).1; omega) x y hx hy)])
end Go.Proofs.YtgbafmjgfbgeoaaDoor
