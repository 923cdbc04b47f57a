/- YtgbafmjgfbgeoaaDoor: walks, part 64: where ways lead is where the document says. -/
import Derived.Test.YtgbafmjgfbgeoaaDoorW14
import Derived.Test.YtgbafmjgfbgeoaaDoorW27
import Derived.Test.YtgbafmjgfbgeoaaDoorW32
import Derived.Test.YtgbafmjgfbgeoaaDoorW63
namespace Go.Proofs.YtgbafmjgfbgeoaaDoor
open Go Go.K
set_option maxRecDepth 100000
set_option linter.unusedVariables false
set_option linter.unusedSimpArgs false
set_option maxHeartbeats 1600000
theorem go_sub (f : Fld) (i : Int) (r : List Int) : goP (rT f.sub) (i :: r) = goP f (i :: r) := by rw [goP, goP]; rfl
theorem go_at {l : List Fld} {i : Nat} {f : Fld} (h : l[i]? = some f) (r : List Int) : goP (rT l) ((i : Int) :: r) = goP f r := by
  have hi := (List.getElem?_eq_some_iff.1 h).1
  have h' : (rT l).sub[i]? = some f := h
  have hl : i < (rT l).sub.length := hi
  rw [goP, if_pos ⟨by omega, by omega⟩, Int.toNat_natCast, h']
theorem node_go : ∀ (d : Nat) (path : List Nat) (ind : Bool) (l : List Fld) (x : FNode), x ∈ nd d path ind l → ∃ q, x.path = path ++ q ∧ q ≠ [] ∧ goP (rT l) (toInts q) = some x.f
  | 0, _, _, _, x, h => by cases h
  | d + 1, path, ind, l, x, h => by
    rw [nd] at h
    obtain ⟨⟨f, i⟩, hp, hx⟩ := List.mem_flatMap.1 h
    have hf : l[i]? = some f := by simpa using List.mk_mem_zipIdx_iff_getElem?.1 hp
    rcases List.mem_cons.1 hx with rfl | hx
    · exact ⟨[i], rfl, by simp, by show goP (rT l) ((i : Int) :: []) = some f; rw [go_at hf]; rfl⟩
    · obtain ⟨q, h1, h2, h3⟩ := node_go d _ _ _ x hx
      refine ⟨i :: q, by rw [h1]; simp, by simp, ?_⟩
      show goP (rT l) ((i : Int) :: toInts q) = some x.f
      rw [go_at hf, ← h3]
      cases q with
      | nil => exact absurd rfl h2
      | cons j q => exact (go_sub f _ _).symm
def nodesP (l : List Fld) (nt : List NoteT) : List FNode := if mayP l nt then nd 65 [] false l else []
theorem at_node {l : List Fld} {nt : List NoteT} {x : FNode} (h : x ∈ nodesP l nt) : atP l nt (toInts x.path) = (x.f, 0) := by
  unfold nodesP at h
  by_cases hm : mayP l nt = true
  · rw [if_pos hm] at h
    obtain ⟨q, h1, h2, h3⟩ := node_go 65 [] false l x h
    rw [List.nil_append] at h1
    rw [← h1] at h2 h3
    unfold atP
    rw [if_neg (by rw [hm]; simp), if_neg (by intro h; exact h2 (List.eq_nil_of_length_eq_zero (by have := congrArg List.length h; rwa [toInts_length] at this))), h3]
  · rw [if_neg hm] at h; cases h
theorem nodesF_walk (wb w : World) (L : Own) (hw : Sy wb L w) (hLn : ∀ q ∈ L, wb.heap.size ≤ q.1) (lo : Nat) (hlo : lo ≤ wb.heap.size) (a : Option Addr) (l : List Fld) (c : Nat) (na : Option Addr) (nt : List NoteT) (nc : Nat) (h : SchAt wb lo a l c na nt nc) :
    Calls Tryd.prog 8 #[.agg #[.slice a l.length c, .slice na nt.length nc]] w (fun e w' => ∃ v L', e = .returned v ∧ Sy wb L' w' ∧ ∃ A B xs, RowO wb 41 10 L' (A ++ B) v (nodesP l nt).length xs ∧ NodesC wb lo A (nodesP l nt) xs ∧ (∀ q ∈ A ++ B, wb.heap.size ≤ q.1) ∧ ∀ q ∈ L, q ∈ A ++ B) := by
  refine enterB (args := [.agg #[.slice a l.length c, .slice na nt.length nc]]) Tryd.func8 rfl Tryd.ntmps8 (congrArg Array.toList Tryd.results8) (by kernel_rfl) (by simp) hw ?_
  simp (disch := omega) only [push_cast, Nat.reduceEqDiff]
  refine newI (fun b1 hb1 hn1 => ?_)
  have hL : ∀ p ∈ (b1, Obj.cells #[.slice a l.length c, .slice na nt.length nc] 25 (0, 0)) :: L, wb.heap.size ≤ p.1 := fun q hq => by
    rcases List.mem_cons.1 hq with rfl | hq
    · exact hb1
    · exact hLn q hq
  simp (disch := omega) only [push_cast, Nat.reduceEqDiff]
  repeat' (first | ((first | refine guardX_t rfl (fun h => ?_) (fun h => ?_) | refine guardX_f rfl (fun h => ?_) (fun h => ?_) | refine condX_d (fun h => ?_) (fun h => ?_) | (refine guardX_bt rfl (fun h => ?_) (fun h => ?_) <;> (try subst h)) | (refine guardX_bf rfl (fun h => ?_) (fun h => ?_) <;> (try subst h)) | (refine condX_b (fun h => ?_) (fun h => ?_) <;> (try subst h)) | refine ldOne Shp.eq (by (first | exact mem0 | exact mem1 | exact mem2 | exact mem3 | exact mem4 | exact mem5)) rfl ?_ | refine loadX_agg Shp.eq (by (first | exact mem0 | exact mem1 | exact mem2 | exact mem3 | exact mem4 | exact mem5)) rfl rfl ?_ | refine newI (fun b hb hn => ?_) | refine storeX 0 rfl Siz.eq rfl rfl (by simp [Value.oneCell']) (by simp) ?_ | refine storeX 1 rfl Siz.eq rfl rfl (by simp [Value.oneCell']) (by simp) ?_ | refine storeX 2 rfl Siz.eq rfl rfl (by simp [Value.oneCell']) (by simp) ?_ | refine storeX 3 rfl Siz.eq rfl rfl (by simp [Value.oneCell']) (by simp) ?_ | refine storeX 4 rfl Siz.eq rfl rfl (by simp [Value.oneCell']) (by simp) ?_ | refine storeX 5 rfl Siz.eq rfl rfl (by simp [Value.oneCell']) (by simp) ?_ | refine storeX 6 rfl Siz.eq rfl rfl (by simp [Value.oneCell']) (by simp) ?_) <;> simp (disch := omega) only [push_cast, Nat.reduceEqDiff]))
  have k1 := fun w' (L' : Own) (hL' : ∀ p ∈ L', wb.heap.size ≤ p.1) hw' => h.sy hlo (w' := w') (M := L') hw' (fun p hp => Nat.le_trans hlo (hL' p hp))
  refine callV en_35 (callX_ex (S := fun v => ∃ qa qc, v = .agg #[i64 (checkP l nt).1, .slice qa (checkP l nt).2.1.length qc, i64 (checkP l nt).2.2]) (fun w' hw' => (checkR_walk w' lo (Nat.le_trans hlo hw'.size) l a c (k1 w' _ hL hw').hr h.hc h.hc2 nt na nc (k1 w' _ hL hw').hn h.hnc h.hnc2).mono (fun e w'' ⟨v, M, q1, q2, q3, ⟨qa, qc, q4, _⟩⟩ => ⟨v, q1, q2.end q3, qa, qc, q4⟩)) (fun v hS => ?_))
  obtain ⟨qa, qc, rfl⟩ := hS
  simp (disch := omega) only [push_cast, Nat.reduceEqDiff]
  rw [V_cond]
  simp (disch := omega) only [push_cast, Nat.reduceEqDiff]
  refine condX_d (fun h1 => ?_) (fun h1 => ?_)
  · simp (disch := omega) only [push_cast, Nat.reduceEqDiff]
    have hm : mayP l nt = false := by unfold mayP; simpa using h1
    have hz : nodesP l nt = [] := by unfold nodesP; rw [hm]; rfl
    rw [hz]
    exact fun w' hw' => ⟨_, _, rfl, hw', [], _, [], ⟨rfl, .inl ⟨rfl, rfl, rfl⟩⟩, rfl, hL, fun q hq => .tail _ hq⟩
  · simp (disch := omega) only [push_cast, Nat.reduceEqDiff]
    repeat' (first | ((first | refine guardX_t rfl (fun h => ?_) (fun h => ?_) | refine guardX_f rfl (fun h => ?_) (fun h => ?_) | refine condX_d (fun h => ?_) (fun h => ?_) | (refine guardX_bt rfl (fun h => ?_) (fun h => ?_) <;> (try subst h)) | (refine guardX_bf rfl (fun h => ?_) (fun h => ?_) <;> (try subst h)) | (refine condX_b (fun h => ?_) (fun h => ?_) <;> (try subst h)) | refine ldOne Shp.eq (by (first | exact mem0 | exact mem1 | exact mem2 | exact mem3 | exact mem4 | exact mem5)) rfl ?_ | refine loadX_agg Shp.eq (by (first | exact mem0 | exact mem1 | exact mem2 | exact mem3 | exact mem4 | exact mem5)) rfl rfl ?_ | refine newI (fun b hb hn => ?_) | refine storeX 0 rfl Siz.eq rfl rfl (by simp [Value.oneCell']) (by simp) ?_ | refine storeX 1 rfl Siz.eq rfl rfl (by simp [Value.oneCell']) (by simp) ?_ | refine storeX 2 rfl Siz.eq rfl rfl (by simp [Value.oneCell']) (by simp) ?_ | refine storeX 3 rfl Siz.eq rfl rfl (by simp [Value.oneCell']) (by simp) ?_ | refine storeX 4 rfl Siz.eq rfl rfl (by simp [Value.oneCell']) (by simp) ?_ | refine storeX 5 rfl Siz.eq rfl rfl (by simp [Value.oneCell']) (by simp) ?_ | refine storeX 6 rfl Siz.eq rfl rfl (by simp [Value.oneCell']) (by simp) ?_) <;> simp (disch := omega) only [push_cast, Nat.reduceEqDiff]))
    have hm : mayP l nt = true := by unfold mayP; simpa using h1
    have hz : nodesP l nt = nd 65 [] false l := by unfold nodesP; rw [if_pos hm]
    refine callV en_36 (callX_own (fun w' hw' => grow_ok 64 wb w' _ [] _ lo (.slice none 0 0) [] [] [] (.slice none 0 0) l a c false hw' hlo hL ⟨rfl, .inl ⟨rfl, rfl, rfl⟩⟩ rfl (by simp) ⟨rfl, .inl ⟨rfl, rfl⟩⟩ rfl h.hr h.hc h.hc2) (fun v1 L1 hS => ?_))
    obtain ⟨A1, xs1, hro1, hno1, hA1, _⟩ := hS
    rw [List.nil_append, List.take_of_length_le (Nat.le_trans (few_nodes hm) (by omega)), ← hz] at hro1 hno1
    simp (disch := omega) only [push_cast, Nat.reduceEqDiff]
    exact fun w' hw' => ⟨_, L1, rfl, hw', A1, _, xs1, hro1, hno1, (fun q hq => by
      rcases List.mem_append.1 hq with hq | hq
      · exact hA1 q hq
      · exact hL q hq), fun q hq => List.mem_append_right _ (.tail _ hq)⟩
/-- A list of ways in memory, below lo. -/
def WaysAt (w : World) (lo : Nat) (a : Option Addr) (ws : List (List Int)) : Prop := ws = [] ∨ ∃ b off, a = some ⟨b, off, none⟩ ∧ b < lo ∧ ∀ i p, ws[i]? = some p → ∃ pa pc, At w b (off + i) [.slice pa (List.length p) pc] ∧ IntsAt w pa p ∧ p.length ≤ 9223372036854775807
theorem intsAt_sy {w w' : World} {M : Own} {pa : Option Addr} {p : List Int} (h : IntsAt w pa p) (hs : Sy w M w') (hM : ∀ q ∈ M, w.heap.size ≤ q.1) : IntsAt w' pa p := by
  rcases h with h | ⟨b, off, h1, h2⟩
  · exact .inl h
  · exact .inr ⟨b, off, h1, fun i n hi => (h2 i n hi).of_block (hs.rest _ (h2 i n hi).lt (out_of (fun q hq => Nat.lt_of_lt_of_le (h2 i n hi).lt (hM q hq))))⟩
/-- Both At answer the same. -/
theorem at_both (wb : World) (hs : SaysAt wb) (lo : Nat) (hlo : lo ≤ wb.heap.size) (a : Option Addr) (l : List Fld) (c : Nat) (na : Option Addr) (nt : List NoteT) (nc : Nat) (hsc : SchAt wb lo a l c na nt nc) (pa : Option Addr) (p : List Int) (pc : Nat) (hp : IntsAt wb pa p) (hpl : p.length ≤ 9223372036854775807) :
    ∃ r : Fld × Int, (r.2 = 0 ∨ r.1 = f0) ∧ (∀ L w', (∀ q ∈ L, wb.heap.size ≤ q.1) → Sy wb L w' → Calls Tryd.prog 15 #[.agg #[.slice a l.length c, .slice na nt.length nc], .slice pa p.length pc] w' (RetsN w' (AtS r))) ∧
      ∀ L w', (∀ q ∈ L, wb.heap.size ≤ q.1) → Sy wb L w' → Calls Tryd.prog 16 #[.agg #[.slice a l.length c, .slice na nt.length nc], .slice pa p.length pc] w' (fun e w'' => ∃ v L', e = .returned v ∧ Sy wb L' w'' ∧ (L' = L ∧ AtB wb lo r v)) := by
  have h1 : (atP l nt p).2 = 0 ∨ (atP l nt p).1 = f0 := by
    unfold atP
    split
    · exact .inr rfl
    · split
      · exact .inr rfl
      · split
        · exact .inl rfl
        · exact .inr rfl
  have h2 := fun (L : Own) (w' : World) (hL : ∀ q ∈ L, wb.heap.size ≤ q.1) (hw' : Sy wb L w') => at_walk w' (hs.mono hw' hL) lo (Nat.le_trans hlo hw'.size) a l c na nt nc (hsc.sy hlo hw' (fun q hq => Nat.le_trans hlo (hL q hq))) pa p pc (intsAt_sy hp hw' hL) hpl
  have h3 := fun (L : Own) (w' : World) (hL : ∀ q ∈ L, wb.heap.size ≤ q.1) (hw' : Sy wb L w') => atR_walk wb w' L hw' hL lo hlo a l c na nt nc hsc pa p pc hp hpl
  generalize atP l nt p = r at h1 h2 h3
  exact ⟨r, h1, h2, h3⟩
theorem forgetG {v : Value} {E : Env} {d : Nat} {want : Bool} {A B : Env → Prop} (F : Env → Prop) (hF : F E) (h : ∀ e, F e → GuardX v e d want (tag A) (tag B)) : GuardX v E d want (tag A) (tag B) := h E hF
structure KfI (w0 : World) (b2 : Nat) (ws : List (List Int)) (a : Option Addr) (c : Nat) (L0 : Own) (i : Nat) (wb : World) (e : Env) (ds : List Deferred) (L : Own) : Prop where
  hw : wb = w0
  hds : ds = []
  o : L = L0
  il : i ≤ ws.length
  h2 : e 2 = .pointer (some ⟨b2, 0, none⟩)
  h17 : e 17 = .slice a ws.length c
  h18 : e 18 = i64 ws.length
  h19 : e 19 = i64 i
structure KfJ (w0 : World) (b2 : Nat) (n : Nat) (va : Option Addr) (vc : Nat) (L0 : Own) (i : Nat) (wb : World) (e : Env) (ds : List Deferred) (L : Own) : Prop where
  hw : wb = w0
  hds : ds = []
  o : L = L0
  il : i ≤ n
  h2 : e 2 = .pointer (some ⟨b2, 0, none⟩)
  h60 : e 60 = .slice va n vc
  h61 : e 61 = i64 n
  h62 : e 62 = i64 i
theorem kindFinds_walk (w : World) (hs : SaysAt w) (lo : Nat) (hlo : lo ≤ w.heap.size) (a : Option Addr) (l : List Fld) (c : Nat) (na : Option Addr) (nt : List NoteT) (nc : Nat) (hsc : SchAt w lo a l c na nt nc) (wa : Option Addr) (ws : List (List Int)) (wc : Nat) (hws : WaysAt w lo wa ws) (hwl : ws.length ≤ 9223372036854775807) :
    Calls Tryd.prog 4 #[schV a l c na nt nc, .slice wa ws.length wc] w (Rets w (Is (.bool true))) := by
  refine enterT (args := [schV a l c na nt nc, .slice wa ws.length wc]) Tryd.func4 rfl Tryd.ntmps4 (congrArg Array.toList Tryd.results4) (by kernel_rfl) (by simp) (Sy.refl w) ?_
  simp (disch := omega) only [push_cast, Nat.reduceEqDiff, schV]
  refine newI (fun b2 hb2 hn2 => ?_)
  have hL : ∀ p ∈ [(b2, Obj.cells #[.slice a l.length c, .slice na nt.length nc] 25 (0, 0))], w.heap.size ≤ p.1 := by
    intro p hp; rw [List.mem_singleton.1 hp]; exact hb2
  have k1 := fun w' (L' : Own) (hL' : ∀ p ∈ L', w.heap.size ≤ p.1) hw' => hsc.sy hlo (w' := w') (M := L') hw' (fun p hp => Nat.le_trans hlo (hL' p hp))
  simp (disch := omega) only [push_cast, Nat.reduceEqDiff]
  refine callV en_7 (callX_is (fun w' hw' => awake_walk w' (hs.mono hw' hL)) ?_)
  simp (disch := omega) only [push_cast, Nat.reduceEqDiff]
  rw [V_cond]
  simp (disch := omega) only [push_cast, Nat.reduceEqDiff]
  refine condX_b (fun hm => by cases hm) (fun _ => ?_)
  simp (disch := omega) only [push_cast, Nat.reduceEqDiff]
  rw [V_block]
  simp (disch := omega) only [push_cast, Nat.reduceEqDiff]
  refine loopW (G := Nat) (KfI w b2 ws wa wc [(b2, Obj.cells #[.slice a l.length c, .slice na nt.length nc] 25 (0, 0))]) (fun i => ws.length - i) 0 _ (fun w hw => hw) (by kernel_rfl) ⟨rfl, rfl, rfl, by omega, rfl, rfl, rfl, rfl⟩ ?_
  rintro i wb e ds L ⟨rfl, rfl, rfl, hil, h2, h17, h18, h19⟩
  simp (disch := omega) only [push_cast, Nat.reduceEqDiff, h2, h17, h18, h19]
  rw [V_cond]
  simp (disch := omega) only [push_cast, Nat.reduceEqDiff, h2, h17, h18, h19]
  refine condX_d (fun hlt => ?_) (fun hge => ?_)
  · obtain ⟨p, hp⟩ : ∃ p, ws[i]? = some p := ⟨_, List.getElem?_eq_getElem (by omega)⟩
    rcases hws with rfl | ⟨b, off, rfl, hb, hws⟩
    · simp at hp
    obtain ⟨pa, pc, hat, hpi, hpl⟩ := hws i p hp
    simp (disch := omega) only [push_cast, Nat.reduceEqDiff, h2, h17, h18, h19]
    rw [V_block]
    simp (disch := omega) only [push_cast, Nat.reduceEqDiff, h2, h17, h18, h19]
    refine ldF Shp.eq (by simpa using hat) (out_of (fun q hq => Nat.lt_of_lt_of_le (Nat.lt_of_lt_of_le hb hlo) (hL q hq))) ?_
    simp (disch := omega) only [push_cast, Nat.reduceEqDiff, h2, h17, h18, h19]
    refine loadX_agg Shp.eq mem0 rfl rfl ?_
    simp (disch := omega) only [push_cast, Nat.reduceEqDiff, h2, h17, h18, h19]
    refine Exists.elim (at_both wb hs lo hlo a l c na nt nc hsc pa p pc hpi hpl) (fun r hr => ?_)
    refine callV en_15 (callX_new (fun w' hw' => hr.2.1 _ w' hL hw') (fun v M hM hMn hS => ?_))
    refine Exists.elim hS (fun a2 hS => Exists.elim hS (fun c2 hS => ?_))
    rw [hS.1]
    simp (disch := omega) only [push_cast, Nat.reduceEqDiff, h2, h17, h18, h19]
    refine newI (fun b7 hb7 hn7 => ?_)
    simp (disch := omega) only [push_cast, Nat.reduceEqDiff, h2, h17, h18, h19]
    refine storeX 0 rfl Siz.eq rfl rfl (by simp [Value.oneCell']) (by simp) ?_
    simp (disch := omega) only [push_cast, Nat.reduceEqDiff, h2, h17, h18, h19]
    have hL7 : ∀ q ∈ ((b7, Obj.cells #[str r.1.nm, .bool r.1.nl, i64 r.1.k, i64 r.1.wd, i64 r.1.id, i64 r.1.ix, .slice a2 r.1.sub.length c2] 38 (0, 0)) :: (M ++ [(b2, Obj.cells #[.slice a l.length c, .slice na nt.length nc] 25 (0, 0))])), wb.heap.size ≤ q.1 := fun q hq => by
      rcases List.mem_cons.1 hq with rfl | hq
      · exact hb7
      rcases List.mem_append.1 hq with hq | hq
      · exact hM q hq
      · exact hL q hq
    refine loadX_agg (cs := [.slice a l.length c, .slice na nt.length nc]) (ty := 25) (fr := (0, 0)) Shp.eq (by simp) rfl rfl ?_
    simp (disch := omega) only [push_cast, Nat.reduceEqDiff, h2, h17, h18, h19]
    refine callV en_16 (callX_own (fun w' hw' => hr.2.2 _ w' hL7 hw') (fun v L' hB => ?_))
    rw [hB.1]
    refine Exists.elim hB.2 (fun a3 hB => Exists.elim hB (fun c3 hB => ?_))
    rw [hB.1]
    simp (disch := omega) only [push_cast, Nat.reduceEqDiff, h2, h17, h18, h19]
    refine newI (fun b9 hb9 hn9 => ?_)
    simp (disch := omega) only [push_cast, Nat.reduceEqDiff, h2, h17, h18, h19]
    refine storeX 0 rfl Siz.eq rfl rfl (by simp [Value.oneCell']) (by simp) ?_
    simp (disch := omega) only [push_cast, Nat.reduceEqDiff, h2, h17, h18, h19, ne_eq, not_true_eq_false, decide_false]
    have hL9 : ∀ q ∈ ((b9, Obj.cells #[str r.1.nm, .bool r.1.nl, i64 r.1.k, i64 r.1.wd, i64 r.1.id, i64 r.1.ix, .slice a3 r.1.sub.length c3] 38 (0, 0)) :: (b7, Obj.cells #[str r.1.nm, .bool r.1.nl, i64 r.1.k, i64 r.1.wd, i64 r.1.id, i64 r.1.ix, .slice a2 r.1.sub.length c2] 38 (0, 0)) :: (M ++ [(b2, Obj.cells #[.slice a l.length c, .slice na nt.length nc] 25 (0, 0))])), wb.heap.size ≤ q.1 := fun q hq => by
      rcases List.mem_cons.1 hq with rfl | hq
      · exact hb9
      · exact hL7 q hq
    have hnext : ∀ w', Sy wb ((b9, Obj.cells #[str r.1.nm, .bool r.1.nl, i64 r.1.k, i64 r.1.wd, i64 r.1.id, i64 r.1.ix, .slice a3 r.1.sub.length c3] 38 (0, 0)) :: (b7, Obj.cells #[str r.1.nm, .bool r.1.nl, i64 r.1.k, i64 r.1.wd, i64 r.1.id, i64 r.1.ix, .slice a2 r.1.sub.length c2] 38 (0, 0)) :: (M ++ [(b2, Obj.cells #[.slice a l.length c, .slice na nt.length nc] 25 (0, 0))])) w' → Sy wb [(b2, Obj.cells #[.slice a l.length c, .slice na nt.length nc] 25 (0, 0))] w' := fun w' hw' => hw'.drop (((List.sublist_append_right M _).cons _).cons _) (fun q hq => .inr (hL9 q hq))
    have hrl : r.1.sub.length ≤ 9223372036854775807 := by have := hS.2.1; have := hS.2.2.1; omega
    refine forgetG (fun e => e 2 = .pointer (some ⟨b2, 0, none⟩) ∧ e 7 = .pointer (some ⟨b7, 0, none⟩) ∧ e 9 = .pointer (some ⟨b9, 0, none⟩) ∧ e 10 = i64 r.2 ∧ e 17 = .slice (some ⟨b, off, none⟩) ws.length wc ∧ e 18 = i64 ws.length ∧ e 19 = i64 i ∧ e 38 = .bool false ∧ e 41 = .bool (decide (r.2 = 0))) ⟨h2, rfl, rfl, rfl, h17, h18, h19, rfl, rfl⟩ (fun e he => ?_)
    have h2 := he.1
    have h7 := he.2.1
    have h9 := he.2.2.1
    have h10 := he.2.2.2.1
    have h17 := he.2.2.2.2.1
    have h18 := he.2.2.2.2.2.1
    have h19 := he.2.2.2.2.2.2.1
    have h38 := he.2.2.2.2.2.2.2.1
    have h41 := he.2.2.2.2.2.2.2.2
    refine guardX_t h41 (fun hz => ?_) (fun hz => ?_)
    · simp (disch := omega) only [push_cast, Nat.reduceEqDiff, h2, h7, h9, h10, h38, h17, h18, h19, hz]
      refine loadX_agg Shp.eq mem1 rfl rfl ?_
      simp (disch := omega) only [push_cast, Nat.reduceEqDiff, h2, h7, h9, h10, h38, h17, h18, h19, hz]
      refine loadX_agg Shp.eq mem0 rfl rfl ?_
      simp (disch := omega) only [push_cast, Nat.reduceEqDiff, h2, h7, h9, h10, h38, h17, h18, h19, hz]
      refine callV en_13 (callX_is (fun w' hw' => eqField_walk w' w'.heap.size lo r.1 a2 a3 c2 c3 (Nat.le_refl _) (Nat.le_trans hlo hw'.size) (hS.2.2.2 w' (Held.of_sy hw' (fun q hq => by simp [hq]))) (hB.2.2.2.sy hlo hw' (fun q hq => Nat.le_trans hlo (hL9 q hq))) hrl) ?_)
      simp (disch := omega) only [push_cast, Nat.reduceEqDiff, h2, h7, h9, h10, h38, h17, h18, h19, hz, Bool.not_true, ne_eq, not_true_eq_false, decide_false]
      rw [V_cond]
      simp (disch := omega) only [push_cast, Nat.reduceEqDiff, h2, h7, h9, h10, h38, h17, h18, h19]
      exact ⟨i + 1, [(b2, Obj.cells #[.slice a l.length c, .slice na nt.length nc] 25 (0, 0))], hnext, ⟨rfl, rfl, rfl, by omega, h2, h17, h18, by simp only [upd]; rfl⟩, by omega⟩
    · have hf0 : r.1 = f0 := by
        rcases hr.1 with h | h
        · exact absurd h hz
        · exact h
      have hz2 : decide (r.2 ≠ 0) = true := decide_eq_true hz
      simp (disch := omega) only [push_cast, Nat.reduceEqDiff, h2, h7, h9, h10, h38, h17, h18, h19, hz2]
      refine loadX_agg Shp.eq mem1 rfl rfl ?_
      simp (disch := omega) only [push_cast, Nat.reduceEqDiff, h2, h7, h9, h10, h38, h17, h18, h19, hz2]
      refine callV en_13 (callX_is (v := .bool true) (fun w' hw' => (by
        have h5 := hS.2.2.2 w' (Held.of_sy hw' (fun q hq => by simp [hq]))
        rw [hf0] at h5 ⊢
        exact eqField_walk w' w'.heap.size w'.heap.size f0 a2 none c2 0 (Nat.le_refl _) (Nat.le_refl _) h5 (.nil _) (by simp [Fld.sub]))) ?_)
      simp (disch := omega) only [push_cast, Nat.reduceEqDiff, h2, h7, h9, h10, h38, h17, h18, h19, Bool.not_true]
      rw [V_cond]
      simp (disch := omega) only [push_cast, Nat.reduceEqDiff, h2, h7, h9, h10, h38, h17, h18, h19]
      exact ⟨i + 1, [(b2, Obj.cells #[.slice a l.length c, .slice na nt.length nc] 25 (0, 0))], hnext, ⟨rfl, rfl, rfl, by omega, h2, h17, h18, by simp only [upd]; rfl⟩, by omega⟩
  · simp (disch := omega) only [push_cast, Nat.reduceEqDiff, h2, h17, h18, h19]
    refine loadX_agg Shp.eq mem0 rfl rfl ?_
    simp (disch := omega) only [push_cast, Nat.reduceEqDiff, h2]
    refine callV en_8 (callX_own (fun w' hw' => nodesF_walk wb w' _ hw' hL lo hlo a l c na nt nc hsc) (fun v L1 hS => ?_))
    refine Exists.elim hS (fun A hS => Exists.elim hS (fun B hS => Exists.elim hS (fun xs hS => ?_)))
    refine Exists.elim hS.1.is_slice (fun va hv => Exists.elim hv (fun vc hv => ?_))
    have hro := hS.1
    rw [hv] at hro ⊢
    have hno := hS.2.1
    have hL1 : ∀ q ∈ L1, wb.heap.size ≤ q.1 := hro.new hS.2.2.1
    have hb2L : (b2, Obj.cells #[.slice a l.length c, .slice na nt.length nc] 25 (0, 0)) ∈ L1 := hro.mem (hS.2.2.2 _ (.head _))
    have hAL : ∀ q ∈ A, q ∈ L1 := fun q hq => hro.mem (List.mem_append_left _ hq)
    have hnl : (nodesP l nt).length ≤ 256 := by
      unfold nodesP
      by_cases hm : mayP l nt = true
      · rw [if_pos hm]; exact few_nodes hm
      · rw [if_neg hm]; simp
    simp (disch := omega) only [push_cast, Nat.reduceEqDiff, h2]
    rw [V_block]
    simp (disch := omega) only [push_cast, Nat.reduceEqDiff, h2]
    refine loopW (G := Nat) (KfJ wb b2 (nodesP l nt).length va vc L1) (fun i => (nodesP l nt).length - i) 0 _ (fun w hw => hw) (by kernel_rfl) ⟨rfl, rfl, rfl, by omega, h2, rfl, rfl, rfl⟩ ?_
    clear h2 h17 h18 h19 hil hge hws hv hS
    rintro i wb e ds L ⟨rfl, rfl, rfl, hil, h2, h60, h61, h62⟩
    simp (disch := omega) only [push_cast, Nat.reduceEqDiff, h2, h60, h61, h62]
    rw [V_cond]
    simp (disch := omega) only [push_cast, Nat.reduceEqDiff, h2, h60, h61, h62]
    refine condX_d (fun hlt => ?_) (fun hge => ?_)
    · obtain ⟨x, hx⟩ : ∃ x, (nodesP l nt)[i]? = some x := ⟨_, List.getElem?_eq_getElem (by omega)⟩
      obtain ⟨rb, cs, rfl, hrm, hcs, hvc⟩ := row_block hro (by omega)
      obtain ⟨ci, hci, htk⟩ := hno.get i hx
      obtain ⟨pb, fa, aa, fc, ac, rfl, hpm, hpb, hp65, y1, y2, y3, y4, _⟩ := hci
      rw [← hcs, take_sub _ _ _ _ (by omega)] at htk
      have hato := at_node (List.mem_of_getElem? hx)
      simp (disch := omega) only [push_cast, Nat.reduceEqDiff, h2, h60, h61, h62]
      rw [V_block]
      simp (disch := omega) only [push_cast, Nat.reduceEqDiff, h2, h60, h61, h62]
      refine loadX_agg Shp.eq hrm (by simpa using htk) rfl ?_
      simp (disch := omega) only [push_cast, Nat.reduceEqDiff, h2, h60, h61, h62]
      refine newI (fun b12 hb12 hn12 => ?_)
      simp (disch := omega) only [push_cast, Nat.reduceEqDiff, h2, h60, h61, h62]
      refine storeX 0 rfl Siz.eq rfl rfl (by simp [Value.oneCell']) (by simp) ?_
      simp (disch := omega) only [push_cast, Nat.reduceEqDiff, h2, h60, h61, h62]
      have hL12 : ∀ q ∈ ((b12, Obj.cells #[.slice (some ⟨pb, 0, none⟩) x.path.length x.path.length, str x.f.nm, .bool x.f.nl, i64 x.f.k, i64 x.f.wd, i64 x.f.id, i64 x.f.ix, .slice fa x.f.sub.length fc, .slice aa x.ah.length ac, .bool x.ind] 41 (0, 0)) :: L), wb.heap.size ≤ q.1 := fun q hq => by
        rcases List.mem_cons.1 hq with rfl | hq
        · exact hb12
        · exact hL1 q hq
      have hcallN : ∀ w', Sy wb ((b12, Obj.cells #[.slice (some ⟨pb, 0, none⟩) x.path.length x.path.length, str x.f.nm, .bool x.f.nl, i64 x.f.k, i64 x.f.wd, i64 x.f.id, i64 x.f.ix, .slice fa x.f.sub.length fc, .slice aa x.ah.length ac, .bool x.ind] 41 (0, 0)) :: L) w' → Calls Tryd.prog 15 #[.agg #[.slice a l.length c, .slice na nt.length nc], .slice (some ⟨pb, 0, none⟩) x.path.length x.path.length] w' (RetsN w' (AtS (x.f, 0))) := fun w' hw' => by
        have hii : IntsAt w' (some ⟨pb, 0, none⟩) (toInts x.path) := intsAt_row (M := [(pb, Obj.cells (ints x.path).toArray 3 (0, 0))]) hw' (fun q hq => by rw [List.mem_singleton.1 hq]; exact .tail _ (hAL _ hpm)) ⟨by simp [ints], .inr ⟨pb, x.path.length, ints x.path, rfl, .head _, Nat.le_refl _, by simp only [maxLen]; omega, by simp [ints], List.take_of_length_le (by simp [ints])⟩⟩
        have h := at_walk w' (hs.mono hw' hL12) lo (Nat.le_trans hlo hw'.size) a l c na nt nc (k1 w' _ hL12 hw') (some ⟨pb, 0, none⟩) (toInts x.path) x.path.length hii (by rw [toInts_length]; omega)
        rw [toInts_length, hato] at h
        exact h
      refine loadX_agg Shp.eq (.tail _ hb2L) rfl rfl ?_
      simp (disch := omega) only [push_cast, Nat.reduceEqDiff, h2, h60, h61, h62]
      refine ldOne Shp.eq mem0 rfl ?_
      simp (disch := omega) only [push_cast, Nat.reduceEqDiff, h2, h60, h61, h62]
      refine callV en_15 (callX_new hcallN (fun v M hM hMn hS => ?_))
      refine Exists.elim hS (fun a2 hS => Exists.elim hS (fun c2 hS => ?_))
      rw [hS.1]
      simp (disch := omega) only [push_cast, Nat.reduceEqDiff, h2, h60, h61, h62]
      refine newI (fun b13 hb13 hn13 => ?_)
      simp (disch := omega) only [push_cast, Nat.reduceEqDiff, h2, h60, h61, h62]
      refine storeX 0 rfl Siz.eq rfl rfl (by simp [Value.oneCell']) (by simp) ?_
      simp (disch := omega) only [push_cast, Nat.reduceEqDiff, h2, h60, h61, h62]
      have hL13 : ∀ q ∈ ((b13, Obj.cells #[str x.f.nm, .bool x.f.nl, i64 x.f.k, i64 x.f.wd, i64 x.f.id, i64 x.f.ix, .slice a2 x.f.sub.length c2] 38 (0, 0)) :: (M ++ (b12, Obj.cells #[.slice (some ⟨pb, 0, none⟩) x.path.length x.path.length, str x.f.nm, .bool x.f.nl, i64 x.f.k, i64 x.f.wd, i64 x.f.id, i64 x.f.ix, .slice fa x.f.sub.length fc, .slice aa x.ah.length ac, .bool x.ind] 41 (0, 0)) :: L)), wb.heap.size ≤ q.1 := fun q hq => by
        rcases List.mem_cons.1 hq with rfl | hq
        · exact hb13
        rcases List.mem_append.1 hq with hq | hq
        · exact hM q hq
        · exact hL12 q hq
      have hnext : ∀ w', Sy wb ((b13, Obj.cells #[str x.f.nm, .bool x.f.nl, i64 x.f.k, i64 x.f.wd, i64 x.f.id, i64 x.f.ix, .slice a2 x.f.sub.length c2] 38 (0, 0)) :: (M ++ (b12, Obj.cells #[.slice (some ⟨pb, 0, none⟩) x.path.length x.path.length, str x.f.nm, .bool x.f.nl, i64 x.f.k, i64 x.f.wd, i64 x.f.id, i64 x.f.ix, .slice fa x.f.sub.length fc, .slice aa x.ah.length ac, .bool x.ind] 41 (0, 0)) :: L)) w' → Sy wb L w' := fun w' hw' => hw'.drop (((((List.Sublist.refl L).cons _).trans (List.sublist_append_right M _))).cons _) (fun q hq => .inr (hL13 q hq))
      refine forgetG (fun e => e 2 = .pointer (some ⟨b2, 0, none⟩) ∧ e 12 = .pointer (some ⟨b12, 0, none⟩) ∧ e 13 = .pointer (some ⟨b13, 0, none⟩) ∧ e 14 = i64 0 ∧ e 60 = .slice (some ⟨rb, 0, none⟩) (nodesP l nt).length vc ∧ e 61 = i64 (nodesP l nt).length ∧ e 62 = i64 i ∧ e 76 = .bool (decide ((i : Int) < 300))) ⟨h2, rfl, rfl, rfl, h60, h61, h62, rfl⟩ (fun e he => ?_)
      have h2 := he.1
      have h12 := he.2.1
      have h13 := he.2.2.1
      have h14 := he.2.2.2.1
      have h60 := he.2.2.2.2.1
      have h61 := he.2.2.2.2.2.1
      have h62 := he.2.2.2.2.2.2.1
      have h76 := he.2.2.2.2.2.2.2
      refine guardX_t h76 (fun hz => ?_) (fun hz => ?_)
      · simp (disch := omega) only [push_cast, Nat.reduceEqDiff, h2, h12, h13, h14, h60, h61, h62, h76, hz, ne_eq, not_true_eq_false, decide_false, decide_true]
        refine loadX_agg Shp.eq mem0 rfl rfl ?_
        simp (disch := omega) only [push_cast, Nat.reduceEqDiff, h2, h12, h13, h14, h60, h61, h62, h76, hz]
        refine loadX_agg (cs := [.slice (some ⟨pb, 0, none⟩) x.path.length x.path.length, str x.f.nm, .bool x.f.nl, i64 x.f.k, i64 x.f.wd, i64 x.f.id, i64 x.f.ix, .slice fa x.f.sub.length fc, .slice aa x.ah.length ac, .bool x.ind]) (ty := 41) (fr := (0, 0)) Shp.eq (by simp) rfl rfl ?_
        simp (disch := omega) only [push_cast, Nat.reduceEqDiff, h2, h12, h13, h14, h60, h61, h62, h76, hz]
        refine callV en_13 (callX_is (v := .bool true) (fun w' hw' => eqField_walk w' w'.heap.size lo x.f a2 fa c2 fc (Nat.le_refl _) (Nat.le_trans hlo hw'.size) (hS.2.2.2 w' (Held.of_sy hw' (fun q hq => by simp [hq]))) (y1.sy hlo hw' (fun q hq => Nat.le_trans hlo (hL13 q hq))) (by have := hS.2.1; have := hS.2.2.1; omega)) ?_)
        simp (disch := omega) only [push_cast, Nat.reduceEqDiff, h2, h12, h13, h14, h60, h61, h62, h76, hz, Bool.not_true]
        rw [V_cond]
        simp (disch := omega) only [push_cast, Nat.reduceEqDiff, h2, h12, h13, h14, h60, h61, h62, h76, hz]
        exact ⟨i + 1, L, hnext, ⟨rfl, rfl, rfl, by omega, h2, h60, h61, by simp only [upd]; rfl⟩, by omega⟩
      · simp (disch := omega) only [push_cast, Nat.reduceEqDiff, h2, h12, h13, h14, h60, h61, h62, h76, hz]
        rw [V_cond]
        simp (disch := omega) only [push_cast, Nat.reduceEqDiff, h2, h12, h13, h14, h60, h61, h62, h76, hz]
        exact ⟨i + 1, L, hnext, ⟨rfl, rfl, rfl, by omega, h2, h60, h61, by simp only [upd]; rfl⟩, by omega⟩
    · simp (disch := omega) only [push_cast, Nat.reduceEqDiff, h2, h60, h61, h62]
      exact finIs hL1 rfl
end Go.Proofs.YtgbafmjgfbgeoaaDoor
