/- YtgbafmjgfbgeoaaDoor: walks, part 79: the row KindWays. -/
import Derived.Test.YtgbafmjgfbgeoaaDoorW64
import Derived.Test.YtgbafmjgfbgeoaaDoorW70
import Derived.Test.YtgbafmjgfbgeoaaDoorW77
import Derived.Test.YtgbafmjgfbgeoaaDoorW78
namespace Go.Proofs.YtgbafmjgfbgeoaaDoor
open Go Go.K
set_option maxRecDepth 100000
set_option linter.unusedVariables false
set_option linter.unusedSimpArgs false
set_option maxHeartbeats 1600000
/-- append to a slice without room: new memory. -/
theorem appendFull {P : Program} {wb : World} {L : Own} {t ty e : TypeId} {inf : TypeInfo} {z : Value} {n m c : Nat} {b a : Addr} {xs news : List Value} {K : Value → World → Own → Prop}
    (ht : P.underlying t = some (.slice e)) (hi : P.info? e = some inf) (hz : inf.zero = some z) (hxl : xs.length = n * inf.size) (hx : CanRead wb L b xs) (hl : news.length = m * inf.size) (hr : CanRead wb L a news) (hm : 0 < m) (h63 : n + m ≤ maxLen) (hbytes : (n + m) * inf.bytes ≤ 140737488355328)
    (hK : ∀ (b' cap : Nat) (cs : List Value), wb.heap.size ≤ b' → b' ∉ L.map (·.1) → n + m ≤ cap → cap ≤ maxLen → cs.take ((n + m) * inf.size) = xs ++ news → K (.slice (some ⟨b', 0, none⟩) (n + m) cap) wb ((b', .cells cs.toArray e (0, 0)) :: L)) :
    ValX P (Builtin.append_ #[t, t] ty #[.slice (some b) n n, .slice (some a) m c]) wb L (tag K) := by
  intro w hw
  have h63' : ((n + m : Nat) : Int) ≤ 9223372036854775807 := by simp only [maxLen] at h63; omega
  have hg : n < n + m := by omega
  have hrun := run_append_grow (P := P) w t ty e inf z ht hi hz b n n xs hxl (hx w hw) a m c news hl (hr w hw) hg h63' (growslice_fits hg hbytes)
  have hge := grownCap_ge w (n + m) n e
  have hle := grownCap_le_maxLen w (n + m) n e h63
  refine ⟨_, _, wb, _, hrun, hw.drewn.new _, ?_⟩
  have h1 := hK w.heap.size (grownCap w (n + m) n e) (xs ++ news ++ (Builtin.zeroCells z.cells (grownCap w (n + m) n e - (n + m))).toList) hw.size hw.fresh hge hle (by
    rw [Nat.add_mul, ← hxl, ← hl, ← List.length_append, List.take_left])
  have h2 : (xs ++ news ++ (Builtin.zeroCells z.cells (grownCap w (n + m) n e - (n + m))).toList).toArray = xs.toArray ++ news.toArray ++ Builtin.zeroCells z.cells (grownCap w (n + m) n e - (n + m)) := by simp
  rw [h2] at h1
  exact h1
theorem appendFullI {P : Program} {wb : World} {L : Own} {t ty e : TypeId} {size bytes : Nat} {z : Value} {n m c : Nat} {b a : Addr} {xs news : List Value} {K : Value → World → Own → Prop}
    (ht : P.underlying t = some (.slice e)) (hi : (P.info? e).map (fun i => (i.zero, i.size, i.bytes)) = some (some z, size, bytes)) (hxl : xs.length = n * size) (hx : CanRead wb L b xs) (hl : news.length = m * size) (hr : CanRead wb L a news) (hm : 0 < m) (h63 : n + m ≤ maxLen) (hbytes : (n + m) * bytes ≤ 140737488355328)
    (hK : ∀ (b' cap : Nat) (cs : List Value), wb.heap.size ≤ b' → b' ∉ L.map (·.1) → n + m ≤ cap → cap ≤ maxLen → cs.take ((n + m) * size) = xs ++ news → K (.slice (some ⟨b', 0, none⟩) (n + m) cap) wb ((b', .cells cs.toArray e (0, 0)) :: L)) :
    ValX P (Builtin.append_ #[t, t] ty #[.slice (some b) n n, .slice (some a) m c]) wb L (tag K) := by
  cases hh : P.info? e with
  | none => rw [hh] at hi; cases hi
  | some inf =>
    rw [hh] at hi
    simp only [Option.map_some, Option.some.injEq, Prod.mk.injEq] at hi
    obtain ⟨h1, rfl, rfl⟩ := hi
    exact appendFull ht hh h1 hxl hx hl hr hm h63 hbytes hK
theorem intsAt_own {w wb : World} {L : Own} {b : Nat} {cs : List Value} {ty : TypeId} {l : List Nat} (hw : Sy wb L w) (hm : (b, Obj.cells (List.toArray cs) ty (0, 0)) ∈ L) (h : cs.take l.length = ints l) : IntsAt w (some ⟨b, 0, none⟩) (toInts l) := by
  refine .inr ⟨b, 0, rfl, fun i n hi => At.of_own hw hm ?_⟩
  simp only [toInts, List.getElem?_map] at hi
  cases hl : l[i]? with
  | none => rw [hl] at hi; cases hi
  | some m =>
    rw [hl] at hi
    obtain rfl := Option.some.inj hi
    have hil := (List.getElem?_eq_some_iff.1 hl).1
    have h1 := congrArg (·[i]?) h
    simp only [List.getElem?_take, hil, if_true, ints, List.getElem?_map, hl, Option.map_some] at h1
    obtain ⟨h2, h3⟩ := List.getElem?_eq_some_iff.1 h1
    rw [Nat.zero_add, List.drop_eq_getElem_cons h2, h3]
    rfl
theorem at_beyond {l : List Fld} {nt : List NoteT} {x : FNode} (h : x ∈ nodesP l nt) : atP l nt (toInts (x.path ++ [x.f.sub.length])) = (f0, 2) := by
  unfold nodesP at h
  by_cases hm : mayP l nt = true
  · rw [if_pos hm] at h
    obtain ⟨q, h1, h2, h3⟩ := node_go 65 [] false l x h
    rw [List.nil_append] at h1
    rw [← h1] at h2 h3
    have he : toInts (x.path ++ [x.f.sub.length]) = toInts x.path ++ [(x.f.sub.length : Int)] := by simp [toInts]
    unfold atP
    rw [if_neg (by rw [hm]; simp), he, if_neg (by simp), goP_append, h3]
    simp only [Option.bind_some]
    rw [goP, if_neg (by omega)]
  · rw [if_neg hm] at h; cases h
structure WyI (w : World) (LZ OB : Own) (n : FNode) (bw cap b3 b4 : Nat) (sv : Value) (D : Nat → Bool) (e : Env) (ds : List Deferred) (L : Own) : Prop where
  hds : ds = []
  h3 : e 3 = .pointer (some ⟨b3, 0, none⟩)
  h4 : e 4 = .pointer (some ⟨b4, 0, none⟩)
  h6 : e 6 = .slice (some ⟨bw, 0, none⟩) n.path.length cap
  h37 : e 37 = sv
  h43 : e 43 = .slice (some ⟨bw, 0, none⟩) n.path.length n.path.length
  h47 : e 47 = i64 (n.f.sub.length : Nat)
  o : (D 11 = false ∧ D 12 = false ∧ D 13 = false ∧ L = LZ) ∨ (D 11 = true ∧ D 12 = false ∧ D 13 = false ∧ ∃ b, w.heap.size ≤ b ∧ L = (b, Obj.cells #[i64 (n.f.sub.length : Nat)] 3 (0, 0)) :: LZ ∧ e 48 = .slice (some ⟨b, 0, none⟩) 1 1) ∨
    (D 11 = true ∧ D 12 = true ∧ D 13 = false ∧ ∃ b cap cs, w.heap.size ≤ b ∧ L = (b, Obj.cells (List.toArray cs) 3 (0, 0)) :: LZ ∧ e 49 = .slice (some ⟨b, 0, none⟩) (n.path.length + 1) cap ∧ n.path.length + 1 ≤ cap ∧ cap ≤ maxLen ∧ cs.take (n.path.length + 1) = ints (n.path ++ [n.f.sub.length])) ∨ (D 11 = true ∧ D 12 = true ∧ D 13 = true ∧ L = OB)
  d13 : D 13 = true → ∃ x, e 50 = .tuple #[x, i64 2]
  d14 : D 14 = true → ∃ x, e 36 = .tuple #[x, i64 2]
  d16 : D 16 = true → e 52 = i64 2
  d17 : D 17 = true → e 9 = i64 2
theorem semT_own {c : Cfg} {code : Code} {Q : Post} {wb : World} {e : Env} {ds : List Deferred} {L L' : Own} (h : L' = L) (hs : SemT c (tag code) (tag Q) wb e ds L) : SemT c (tag code) (tag Q) wb e ds L' := h ▸ hs
theorem bin_func_nil {K : Value → Prop} {x : Operand} (g : FuncId) (xs cs : Array Value) : PureX Tryd.prog (binV .eql 32 x (.const .nilFunc) (.func (.func g) xs cs) .nilFunc) (tag K) = K (.bool false) := px (fun w => by kernel_rfl) K
theorem nd_nil (d : Nat) (path : List Nat) (ind : Bool) : nd d path ind [] = [] := by cases d <;> simp [nd]
theorem nd_ok : ∀ (d : Nat) (path : List Nat) (ind : Bool) (l : List Fld), okT l = true → ∀ x ∈ nd d path ind l, okS x.f = true
  | 0, _, _, _, _, x, h => by simp [nd] at h
  | d + 1, path, ind, l, hl, x, h => by
    rw [nd] at h
    obtain ⟨⟨f, i⟩, hp, hx⟩ := List.mem_flatMap.1 h
    have hf : l[i]? = some f := by simpa using List.mk_mem_zipIdx_iff_getElem?.1 hp
    have h1 := okT_get hl hf
    rcases List.mem_cons.1 hx with rfl | hx
    · exact h1
    · exact nd_ok d _ _ _ ((okS_iff f).1 h1).2 x hx
/-- What is known behind the loop over all fields. -/
structure WfI (w : World) (a : Option Addr) (l : List Fld) (c : Nat) (na : Option Addr) (nt : List NoteT) (nc : Nat) (ns : List FNode) (b1 b2 b3 b4 : Nat) (M : Own) (wb : World) (e : Env) (ds : List Deferred) (L : Own) : Prop where
  hw : wb = w
  o : ∃ d lr x, w.heap.size ≤ d ∧ w.heap.size ≤ lr ∧ ds = [{ target := .collected d, args := #[] }] ∧ L = (lr, x) :: (d, .deferred (some [])) :: (b4, Obj.cells #[i64 (dmax ns : Nat)] 3 (0, 0)) :: (b3, Obj.cells #[i64 (ns.length : Nat)] 3 (0, 0)) :: (b2, Obj.cells #[.bool false] 4 (0, 0)) :: (b1, Obj.cells #[.slice a l.length c, .slice na nt.length nc] 25 (0, 0)) :: M
  h1 : e 1 = .pointer (some ⟨b1, 0, none⟩)
  h2 : e 2 = .pointer (some ⟨b2, 0, none⟩)
  h3 : e 3 = .pointer (some ⟨b3, 0, none⟩)
  h4 : e 4 = .pointer (some ⟨b4, 0, none⟩)
/-- What is known behind the loop over the schema's fields. -/
structure AfI (w0 : World) (ds0 : List Deferred) (LW : Own) (l : List Fld) (ns : List FNode) (b1 b2 b3 b4 : Nat) (wb : World) (e : Env) (ds : List Deferred) (L : Own) : Prop where
  hw : wb = w0
  hds : ds = ds0
  o : ∃ X, L = X ++ LW ∧ ∀ p ∈ X, w0.heap.size ≤ p.1
  h1 : e 1 = .pointer (some ⟨b1, 0, none⟩)
  h2 : e 2 = .pointer (some ⟨b2, 0, none⟩)
  h3 : e 3 = .pointer (some ⟨b3, 0, none⟩)
  h4 : e 4 = .pointer (some ⟨b4, 0, none⟩)
  h10 : ∃ mo : Nat, e 10 = i64 mo ∧ (0 < ns.length → mo = mostN l)
structure LfI (w0 : World) (ds0 : List Deferred) (LW : Own) (l : List Fld) (a : Option Addr) (c b1 b2 b3 b4 : Nat) (i : Nat) (wb : World) (e : Env) (ds : List Deferred) (L : Own) : Prop where
  hw : wb = w0
  hds : ds = ds0
  o : L = LW
  il : i ≤ l.length
  h1 : e 1 = .pointer (some ⟨b1, 0, none⟩)
  h2 : e 2 = .pointer (some ⟨b2, 0, none⟩)
  h3 : e 3 = .pointer (some ⟨b3, 0, none⟩)
  h4 : e 4 = .pointer (some ⟨b4, 0, none⟩)
  h10 : e 10 = i64 (mostN (l.take i) : Nat)
  h64 : e 64 = .slice a l.length c
  h65 : e 65 = i64 l.length
  h66 : e 66 = i64 i
theorem semT_weak {c : Cfg} {code : Code} {Q : Post} {wb : World} {e : Env} {ds : List Deferred} {L L' : Own} (hs : ∀ w, Sy wb L w → Sy wb L' w) (h : SemT c (tag code) (tag Q) wb e ds L') : SemT c (tag code) (tag Q) wb e ds L := fun a w hr hw => h a w hr (hs w hw)
theorem kindWays_walk (w : World) (hs : SaysAt w) (lo : Nat) (hlo : lo ≤ w.heap.size) (a : Option Addr) (l : List Fld) (c : Nat) (na : Option Addr) (nt : List NoteT) (nc : Nat) (hsc : SchAt w lo a l c na nt nc) :
    Calls Tryd.prog 5 #[schV a l c na nt nc] w (Rets w (Is (.bool true))) := by
  refine enterM (args := [schV a l c na nt nc]) Tryd.func5 rfl Tryd.ntmps5 (congrArg Array.toList Tryd.results5) (by kernel_rfl) (by simp) (Sy.refl w) ?_
  simp (disch := omega) only [push_cast, Nat.reduceEqDiff, schV]
  refine newI (fun b1 hb1 hn1 => ?_)
  simp (disch := omega) only [push_cast, Nat.reduceEqDiff]
  refine newI (fun b2 hb2 hn2 => ?_)
  simp (disch := omega) only [push_cast, Nat.reduceEqDiff]
  have hL2 : ∀ x y : Obj, ∀ p ∈ [(b2, x), (b1, y)], w.heap.size ≤ p.1 := fun x y p hp => by
    simp only [List.mem_cons, List.mem_nil_iff, or_false] at hp
    rcases hp with rfl | rfl <;> assumption
  refine callV en_7 (callX_is (fun w' hw' => awake_walk w' (hs.mono hw' (hL2 _ _))) ?_)
  simp (disch := omega) only [push_cast, Nat.reduceEqDiff]
  rw [V_cond]
  simp (disch := omega) only [push_cast, Nat.reduceEqDiff]
  refine condX_b (fun hm => by cases hm) (fun _ => ?_)
  simp (disch := omega) only [push_cast, Nat.reduceEqDiff]
  refine newI (fun b3 hb3 hn3 => ?_)
  simp (disch := omega) only [push_cast, Nat.reduceEqDiff]
  refine storeX 0 rfl Siz.eq rfl rfl (by simp [Value.oneCell']) (by simp) ?_
  simp (disch := omega) only [push_cast, Nat.reduceEqDiff]
  refine newI (fun b4 hb4 hn4 => ?_)
  simp (disch := omega) only [push_cast, Nat.reduceEqDiff]
  refine storeX 0 rfl Siz.eq rfl rfl (by simp [Value.oneCell']) (by simp) ?_
  simp (disch := omega) only [push_cast, Nat.reduceEqDiff]
  refine loadX_agg Shp.eq mem3 rfl rfl ?_
  simp (disch := omega) only [push_cast, Nat.reduceEqDiff]
  have hL4 : ∀ x y z u : Obj, ∀ p ∈ [(b4, x), (b3, y), (b2, z), (b1, u)], w.heap.size ≤ p.1 := fun x y z u p hp => by
    simp only [List.mem_cons, List.mem_nil_iff, or_false] at hp
    rcases hp with rfl | rfl | rfl | rfl <;> assumption
  have k1 := fun w' (L' : Own) (hL' : ∀ p ∈ L', w.heap.size ≤ p.1) hw' => hsc.sy hlo (w' := w') (M := L') hw' (fun p hp => Nat.le_trans hlo (hL' p hp))
  refine callV en_10 (callX_new (fun w' hw' => walk_walk w' (hs.mono hw' (hL4 _ _ _ _)) lo (Nat.le_trans hlo hw'.size) a l c na nt nc (k1 w' _ (hL4 _ _ _ _) hw')) (fun v M hM hMn hS => ?_))
  obtain ⟨bk, va, vc, rfl, hbk, hvc, hvc2, hrx⟩ := hS
  simp (disch := omega) only [push_cast, Nat.reduceEqDiff]
  rw [bin_func_nil]
  simp (disch := omega) only [push_cast, Nat.reduceEqDiff]
  rw [V_cond]
  simp (disch := omega) only [push_cast, Nat.reduceEqDiff]
  obtain ⟨ns, hns⟩ : ∃ ns, ns = nd 64 [] false (walkL l nt) := ⟨_, rfl⟩
  refine cutV (WfI w a l c na nt nc ns b1 b2 b3 b4 M) ?_ ?_
  · rw [V_block]
    simp (disch := omega) only [push_cast, Nat.reduceEqDiff]
    refine forgetS (fun e => e 1 = .pointer (some ⟨b1, 0, none⟩) ∧ e 2 = .pointer (some ⟨b2, 0, none⟩) ∧ e 3 = .pointer (some ⟨b3, 0, none⟩) ∧ e 4 = .pointer (some ⟨b4, 0, none⟩) ∧ e 19 = .func (.func 40) #[] #[.pointer (some ⟨bk, 0, none⟩)]) ⟨rfl, rfl, rfl, rfl, rfl⟩ ?_
    rintro e ⟨e1, e2, e3, e4, e19⟩
    refine rangeY rfl e19 en_40 (fun fn tm d lr rec hrec htm hdl hd hlr hdn hlrn w' hw' => ?_)
    have hC : ∀ x y z u v t : Obj, ∀ p ∈ [(lr, x), (d, y), (b4, z), (b3, u), (b2, v), (b1, t)], w.heap.size ≤ p.1 := fun x y z u v t p hp => by
      simp only [List.mem_cons, List.mem_nil_iff, or_false] at hp
      rcases hp with rfl | rfl | rfl | rfl | rfl | rfl <;> assumption
    refine (walk1_walk w [] ns
      (fun k C => k ≤ ns.length ∧ C = [(lr, .loop rec), (d, .deferred (some [])), (b4, Obj.cells #[i64 (dmax (ns.take k) : Nat)] 3 (0, 0)), (b3, Obj.cells #[i64 (k : Nat)] 3 (0, 0)), (b2, Obj.cells #[.bool false] 4 (0, 0)), (b1, Obj.cells #[.slice a l.length c, .slice na nt.length nc] 25 (0, 0))])
      (fun k C => False) (.func (.yield lr) #[] #[]) rfl rfl ⟨(by intro g f c h; cases h), ?_, (fun k C h => h.elim), ?_⟩ w' [(lr, .loop rec), (d, .deferred (some [])), (b4, Obj.cells #[i64 0] 3 (0, 0)), (b3, Obj.cells #[i64 0] 3 (0, 0)), (b2, Obj.cells #[.bool false] 4 (0, 0)), (b1, Obj.cells #[.slice a l.length c, .slice na nt.length nc] 25 (0, 0))] M bk (walkL l nt) va vc
      (hw'.perm ((List.perm_append_comm.cons _).cons _)) ⟨Nat.zero_le _, rfl⟩ hM (by simp) hbk hrx hvc hvc2 ?_ hns).mono ?_
    · rintro k C ⟨_, rfl⟩ p hp
      exact hC _ _ _ _ _ _ p hp
    · rintro k n hkn C N Mx bw cap cs fa fc ⟨hk, rfl⟩ hbw hpc hcm hcl hct hrf hfc hfc2 hnm hpl hNM _ w2 hw2
      have hklt : k < ns.length := (List.getElem?_eq_some_iff.1 hkn).1
      have hdm := dmax_take hkn
      have hm : mayP l nt = true := by
        cases hm : mayP l nt with
        | true => rfl
        | false =>
          have : ns = [] := by rw [hns]; unfold walkL; rw [hm, if_neg (by simp), nd_nil]
          rw [this] at hklt; simp at hklt
      have hwl : walkL l nt = l := by unfold walkL; rw [hm]; rfl
      have hnd : ns = nd 65 [] false l := by rw [hns, hwl, nd_dp 64 [] false l (may_dp hm)]
      have hnode : n ∈ nodesP l nt := by unfold nodesP; rw [if_pos hm, ← hnd]; exact List.mem_of_getElem? hkn
      have hato := at_node hnode
      have hat : ∀ (w' : World) (L' : Own), (∀ p ∈ L', w.heap.size ≤ p.1) → Sy w L' w' → (bw, Obj.cells cs.toArray 3 (0, 0)) ∈ L' → Calls Tryd.prog 15 #[.agg #[.slice a l.length c, .slice na nt.length nc], .slice (some ⟨bw, 0, none⟩) n.path.length cap] w' (RetsN w' (AtS (n.f, 0))) := fun w' L' hL' hw' hb => by
        have hii : IntsAt w' (some ⟨bw, 0, none⟩) (toInts n.path) := intsAt_row (M := [(bw, Obj.cells cs.toArray 3 (0, 0))]) hw' (fun q hq => by rw [List.mem_singleton.1 hq]; exact hb) ⟨by simp [ints], .inr ⟨bw, cap, cs, rfl, .head _, hpc, hcm, by omega, by simpa using hct⟩⟩
        have h := at_walk w' (hs.mono hw' hL') lo (Nat.le_trans hlo hw'.size) a l c na nt nc (k1 w' _ hL' hw') (some ⟨bw, 0, none⟩) (toInts n.path) cap hii (by rw [toInts_length]; omega)
        rw [toInts_length, hato] at h
        exact h
      obtain ⟨bz, hbz⟩ : ∃ bz : Loop, bz = { rec with state := .busy } := ⟨_, rfl⟩
      subst hrec
      refine roundX (i := 0) rfl htm rfl (by simp) (by kernel_rfl) (by kernel_rfl) ?_ w2 hw2
      simp (disch := omega) only [push_cast, Nat.reduceEqDiff, e1, e2, e3, e4, Fld.cells]
      refine newI (fun b7 hb7 hn7 => ?_)
      simp (disch := omega) only [push_cast, Nat.reduceEqDiff, e1, e2, e3, e4]
      repeat' (first | ((first | refine guardX_t rfl (fun h => ?_) (fun h => ?_) | refine guardX_f rfl (fun h => ?_) (fun h => ?_) | refine condX_d (fun h => ?_) (fun h => ?_) | (refine guardX_bt rfl (fun h => ?_) (fun h => ?_) <;> (try subst h)) | (refine guardX_bf rfl (fun h => ?_) (fun h => ?_) <;> (try subst h)) | (refine condX_b (fun h => ?_) (fun h => ?_) <;> (try subst h)) | refine ldOne Shp.eq (by (first | exact mem0 | exact mem1 | exact mem2 | exact mem3 | exact mem4 | exact mem5)) rfl ?_ | refine loadX_agg Shp.eq (by (first | exact mem0 | exact mem1 | exact mem2 | exact mem3 | exact mem4 | exact mem5)) rfl rfl ?_ | refine newI (fun b hb hn => ?_) | refine storeX 0 rfl Siz.eq rfl rfl (by simp [Value.oneCell']) (by simp) ?_ | refine storeX 1 rfl Siz.eq rfl rfl (by simp [Value.oneCell']) (by simp) ?_ | refine storeX 2 rfl Siz.eq rfl rfl (by simp [Value.oneCell']) (by simp) ?_ | refine storeX 3 rfl Siz.eq rfl rfl (by simp [Value.oneCell']) (by simp) ?_ | refine storeX 4 rfl Siz.eq rfl rfl (by simp [Value.oneCell']) (by simp) ?_ | refine storeX 5 rfl Siz.eq rfl rfl (by simp [Value.oneCell']) (by simp) ?_ | refine storeX 6 rfl Siz.eq rfl rfl (by simp [Value.oneCell']) (by simp) ?_) <;> simp (disch := omega) only [push_cast, Nat.reduceEqDiff, e1, e2, e3, e4]))
      refine ⟨1, rfl, ?_⟩
      simp (disch := omega) only [push_cast, Nat.reduceEqDiff, e1, e2, e3, e4]
      rw [V_block]
      simp (disch := omega) only [push_cast, Nat.reduceEqDiff, e1, e2, e3, e4]
      have hLn : ∀ p ∈ (b7, Obj.cells #[str n.f.nm, .bool n.f.nl, i64 n.f.k, i64 n.f.wd, i64 n.f.id, i64 n.f.ix, .slice fa n.f.sub.length fc] 38 (0, 0)) :: (lr, .loop bz) :: (d, .deferred (some [])) :: (b4, Obj.cells #[i64 (dmax (ns.take k) : Nat)] 3 (0, 0)) :: (b3, Obj.cells #[i64 (k : Nat)] 3 (0, 0)) :: (b2, Obj.cells #[.bool false] 4 (0, 0)) :: (b1, Obj.cells #[.slice a l.length c, .slice na nt.length nc] 25 (0, 0)) :: (N ++ Mx), w.heap.size ≤ p.1 := fun p hp => by
        simp only [List.mem_cons] at hp
        rcases hp with rfl | rfl | rfl | rfl | rfl | rfl | rfl | hp
        · exact hb7
        · exact hlr
        · exact hd
        · exact hb4
        · exact hb3
        · exact hb2
        · exact hb1
        · exact hNM p hp
      refine loadX_agg (cs := [.slice a l.length c, .slice na nt.length nc]) (ty := 25) (fr := (0, 0)) Shp.eq (by simp) rfl rfl ?_
      simp (disch := omega) only [push_cast, Nat.reduceEqDiff, e1, e2, e3, e4]
      refine callV en_15 (callX_new (fun w' hw' => hat w' _ (by subst hbz; exact hLn) hw' (by simp [hbw])) (fun v M5 hM5 hMn5 hS => ?_))
      obtain ⟨a5, c5, rfl, y1, y2, y3⟩ := hS
      have hL5 : ∀ p ∈ M5 ++ ((b7, Obj.cells #[str n.f.nm, .bool n.f.nl, i64 n.f.k, i64 n.f.wd, i64 n.f.id, i64 n.f.ix, .slice fa n.f.sub.length fc] 38 (0, 0)) :: (lr, .loop bz) :: (d, .deferred (some [])) :: (b4, Obj.cells #[i64 (dmax (ns.take k) : Nat)] 3 (0, 0)) :: (b3, Obj.cells #[i64 (k : Nat)] 3 (0, 0)) :: (b2, Obj.cells #[.bool false] 4 (0, 0)) :: (b1, Obj.cells #[.slice a l.length c, .slice na nt.length nc] 25 (0, 0)) :: (N ++ Mx)), w.heap.size ≤ p.1 := fun p hp => by
        rcases List.mem_append.1 hp with hp | hp
        · exact hM5 p hp
        · exact hLn p hp
      simp (disch := omega) only [push_cast, Nat.reduceEqDiff, e1, e2, e3, e4]
      refine newI (fun b8 hb8 hn8 => ?_)
      simp (disch := omega) only [push_cast, Nat.reduceEqDiff, e1, e2, e3, e4]
      refine storeX 0 rfl Siz.eq rfl rfl (by simp [Value.oneCell']) (by simp) ?_
      simp (disch := omega) only [push_cast, Nat.reduceEqDiff, e1, e2, e3, e4, ne_eq, not_true_eq_false, decide_false]
      have hL8 : ∀ p ∈ (b8, Obj.cells #[str n.f.nm, .bool n.f.nl, i64 n.f.k, i64 n.f.wd, i64 n.f.id, i64 n.f.ix, .slice a5 n.f.sub.length c5] 38 (0, 0)) :: (M5 ++ ((b7, Obj.cells #[str n.f.nm, .bool n.f.nl, i64 n.f.k, i64 n.f.wd, i64 n.f.id, i64 n.f.ix, .slice fa n.f.sub.length fc] 38 (0, 0)) :: (lr, .loop bz) :: (d, .deferred (some [])) :: (b4, Obj.cells #[i64 (dmax (ns.take k) : Nat)] 3 (0, 0)) :: (b3, Obj.cells #[i64 (k : Nat)] 3 (0, 0)) :: (b2, Obj.cells #[.bool false] 4 (0, 0)) :: (b1, Obj.cells #[.slice a l.length c, .slice na nt.length nc] 25 (0, 0)) :: (N ++ Mx))), w.heap.size ≤ p.1 := fun p hp => by
        rcases List.mem_cons.1 hp with rfl | hp
        · exact hb8
        · exact hL5 p hp
      -- tail begins
      have hm7 : (b7, Obj.cells #[str n.f.nm, .bool n.f.nl, i64 n.f.k, i64 n.f.wd, i64 n.f.id, i64 n.f.ix, .slice fa n.f.sub.length fc] 38 (0, 0)) ∈ (b8, Obj.cells #[str n.f.nm, .bool n.f.nl, i64 n.f.k, i64 n.f.wd, i64 n.f.id, i64 n.f.ix, .slice a5 n.f.sub.length c5] 38 (0, 0)) :: (M5 ++ ((b7, Obj.cells #[str n.f.nm, .bool n.f.nl, i64 n.f.k, i64 n.f.wd, i64 n.f.id, i64 n.f.ix, .slice fa n.f.sub.length fc] 38 (0, 0)) :: (lr, .loop bz) :: (d, .deferred (some [])) :: (b4, Obj.cells #[i64 (dmax (ns.take k) : Nat)] 3 (0, 0)) :: (b3, Obj.cells #[i64 (k : Nat)] 3 (0, 0)) :: (b2, Obj.cells #[.bool false] 4 (0, 0)) :: (b1, Obj.cells #[.slice a l.length c, .slice na nt.length nc] 25 (0, 0)) :: (N ++ Mx))) := .tail _ (List.mem_append_right _ (.head _))
      refine loadX_agg (cs := [str n.f.nm, .bool n.f.nl, i64 n.f.k, i64 n.f.wd, i64 n.f.id, i64 n.f.ix, .slice fa n.f.sub.length fc]) (ty := 38) (fr := (0, 0)) Shp.eq (by subst hbz; exact hm7) rfl rfl ?_
      simp (disch := omega) only [push_cast, Nat.reduceEqDiff, e1, e2, e3, e4]
      refine loadX_agg Shp.eq mem0 rfl rfl ?_
      simp (disch := omega) only [push_cast, Nat.reduceEqDiff, e1, e2, e3, e4]
      refine callV en_13 (callX_is (fun w' hw' => eqField_walk w' w'.heap.size w'.heap.size n.f fa a5 fc c5 (Nat.le_refl _) (Nat.le_refl _) (hrf.toRd (Held.of_sy hw' (fun p hp => .tail _ (List.mem_append_right _ (.tail _ (.tail _ (.tail _ (.tail _ (.tail _ (.tail _ (.tail _ (List.mem_append_left _ hp)))))))))))) (y3 w' (Held.of_sy hw' (fun p hp => .tail _ (List.mem_append_left _ hp)))) (by omega)) ?_)
      simp (disch := omega) only [push_cast, Nat.reduceEqDiff, e1, e2, e3, e4, Bool.not_true]
      rw [V_cond]
      simp (disch := omega) only [push_cast, Nat.reduceEqDiff, e1, e2, e3, e4]
      refine forgetS (fun e => e 1 = .pointer (some ⟨b1, 0, none⟩) ∧ e 3 = .pointer (some ⟨b3, 0, none⟩) ∧ e 4 = .pointer (some ⟨b4, 0, none⟩) ∧ e 6 = .slice (some ⟨bw, 0, none⟩) n.path.length cap ∧ e 7 = .pointer (some ⟨b7, 0, none⟩)) ⟨e1, e3, e4, rfl, rfl⟩ ?_
      clear e1 e2 e3 e4 e19 htm e
      rintro e ⟨e1, e3, e4, e6, e7⟩
      have hstZ : Stab w ((b8, Obj.cells #[str n.f.nm, .bool n.f.nl, i64 n.f.k, i64 n.f.wd, i64 n.f.id, i64 n.f.ix, .slice a5 n.f.sub.length c5] 38 (0, 0)) :: (M5 ++ ((b7, Obj.cells #[str n.f.nm, .bool n.f.nl, i64 n.f.k, i64 n.f.wd, i64 n.f.id, i64 n.f.ix, .slice fa n.f.sub.length fc] 38 (0, 0)) :: (lr, .loop bz) :: (d, .deferred (some [])) :: (b4, Obj.cells #[i64 (dmax (ns.take k) : Nat)] 3 (0, 0)) :: (b3, Obj.cells #[i64 (k : Nat)] 3 (0, 0)) :: (b2, Obj.cells #[.bool false] 4 (0, 0)) :: (b1, Obj.cells #[.slice a l.length c, .slice na nt.length nc] 25 (0, 0)) :: (N ++ Mx)))) ((b7, Obj.cells #[str n.f.nm, .bool n.f.nl, i64 n.f.k, i64 n.f.wd, i64 n.f.id, i64 n.f.ix, .slice fa n.f.sub.length fc] 38 (0, 0)) :: (lr, .loop bz) :: (d, .deferred (some [])) :: (b4, Obj.cells #[i64 (dmax (ns.take k) : Nat)] 3 (0, 0)) :: (b3, Obj.cells #[i64 (k : Nat)] 3 (0, 0)) :: (b2, Obj.cells #[.bool false] 4 (0, 0)) :: (b1, Obj.cells #[.slice a l.length c, .slice na nt.length nc] 25 (0, 0)) :: (N ++ Mx)) := fun w' h => h.drop ((List.sublist_append_right M5 _).cons _) (fun p hp => .inr (hL8 p hp))
      have hmw : (bw, Obj.cells cs.toArray 3 (0, 0)) ∈ (b8, Obj.cells #[str n.f.nm, .bool n.f.nl, i64 n.f.k, i64 n.f.wd, i64 n.f.id, i64 n.f.ix, .slice a5 n.f.sub.length c5] 38 (0, 0)) :: (M5 ++ ((b7, Obj.cells #[str n.f.nm, .bool n.f.nl, i64 n.f.k, i64 n.f.wd, i64 n.f.id, i64 n.f.ix, .slice fa n.f.sub.length fc] 38 (0, 0)) :: (lr, .loop bz) :: (d, .deferred (some [])) :: (b4, Obj.cells #[i64 (dmax (ns.take k) : Nat)] 3 (0, 0)) :: (b3, Obj.cells #[i64 (k : Nat)] 3 (0, 0)) :: (b2, Obj.cells #[.bool false] 4 (0, 0)) :: (b1, Obj.cells #[.slice a l.length c, .slice na nt.length nc] 25 (0, 0)) :: (N ++ Mx))) := .tail _ (List.mem_append_right _ (.tail _ (.tail _ (.tail _ (.tail _ (.tail _ (.tail _ (.tail _ (List.mem_append_left _ hbw)))))))))
      have hs5 : n.f.sub.length ≤ 32 := ((okS_iff n.f).1 (nd_ok 64 [] false l (small_may hm).1 n (by have := List.mem_of_getElem? hkn; rw [hns, hwl] at this; exact this))).1
      refine semT_own (L := (b8, Obj.cells #[str n.f.nm, .bool n.f.nl, i64 n.f.k, i64 n.f.wd, i64 n.f.id, i64 n.f.ix, .slice a5 n.f.sub.length c5] 38 (0, 0)) :: (M5 ++ ((b7, Obj.cells #[str n.f.nm, .bool n.f.nl, i64 n.f.k, i64 n.f.wd, i64 n.f.id, i64 n.f.ix, .slice fa n.f.sub.length fc] 38 (0, 0)) :: (lr, .loop bz) :: (d, .deferred (some [])) :: (b4, Obj.cells #[i64 (dmax (ns.take k) : Nat)] 3 (0, 0)) :: (b3, Obj.cells #[i64 (k : Nat)] 3 (0, 0)) :: (b2, Obj.cells #[.bool false] 4 (0, 0)) :: (b1, Obj.cells #[.slice a l.length c, .slice na nt.length nc] 25 (0, 0)) :: (N ++ Mx)))) (by subst hbz; rfl) ?_
      have hgetO : ∀ D e ds L, WyI w ((b8, Obj.cells #[str n.f.nm, .bool n.f.nl, i64 n.f.k, i64 n.f.wd, i64 n.f.id, i64 n.f.ix, .slice a5 n.f.sub.length c5] 38 (0, 0)) :: (M5 ++ ((b7, Obj.cells #[str n.f.nm, .bool n.f.nl, i64 n.f.k, i64 n.f.wd, i64 n.f.id, i64 n.f.ix, .slice fa n.f.sub.length fc] 38 (0, 0)) :: (lr, .loop bz) :: (d, .deferred (some [])) :: (b4, Obj.cells #[i64 (dmax (ns.take k) : Nat)] 3 (0, 0)) :: (b3, Obj.cells #[i64 (k : Nat)] 3 (0, 0)) :: (b2, Obj.cells #[.bool false] 4 (0, 0)) :: (b1, Obj.cells #[.slice a l.length c, .slice na nt.length nc] 25 (0, 0)) :: (N ++ Mx)))) ((b7, Obj.cells #[str n.f.nm, .bool n.f.nl, i64 n.f.k, i64 n.f.wd, i64 n.f.id, i64 n.f.ix, .slice fa n.f.sub.length fc] 38 (0, 0)) :: (lr, .loop bz) :: (d, .deferred (some [])) :: (b4, Obj.cells #[i64 (dmax (ns.take k) : Nat)] 3 (0, 0)) :: (b3, Obj.cells #[i64 (k : Nat)] 3 (0, 0)) :: (b2, Obj.cells #[.bool false] 4 (0, 0)) :: (b1, Obj.cells #[.slice a l.length c, .slice na nt.length nc] 25 (0, 0)) :: (N ++ Mx)) n bw cap b3 b4 (.agg #[.slice a l.length c, .slice na nt.length nc]) D e ds L → Stab w L ((b7, Obj.cells #[str n.f.nm, .bool n.f.nl, i64 n.f.k, i64 n.f.wd, i64 n.f.id, i64 n.f.ix, .slice fa n.f.sub.length fc] 38 (0, 0)) :: (lr, .loop bz) :: (d, .deferred (some [])) :: (b4, Obj.cells #[i64 (dmax (ns.take k) : Nat)] 3 (0, 0)) :: (b3, Obj.cells #[i64 (k : Nat)] 3 (0, 0)) :: (b2, Obj.cells #[.bool false] 4 (0, 0)) :: (b1, Obj.cells #[.slice a l.length c, .slice na nt.length nc] 25 (0, 0)) :: (N ++ Mx)) := fun D e ds L hI => by
        rcases hI.o with ⟨_, _, _, rfl⟩ | ⟨_, _, _, b, hb, rfl, _⟩ | ⟨_, _, _, b, _, _, hb, rfl, _⟩ | ⟨_, _, _, rfl⟩
        · exact hstZ
        · exact fun w' h => hstZ w' (h.drop (List.sublist_cons_self _ _) (fun p hp => by
            rcases List.mem_cons.1 hp with rfl | hp
            · exact .inr hb
            · exact .inl hp))
        · exact fun w' h => hstZ w' (h.drop (List.sublist_cons_self _ _) (fun p hp => by
            rcases List.mem_cons.1 hp with rfl | hp
            · exact .inr hb
            · exact .inl hp))
        · exact fun w' h => h
      refine freeIT [0, 1, 2, 3, 4, 5, 6, 7, 8, 9, 10] [11, 12, 13, 14, 15, 16, 17] [(11, []), (12, [11]), (13, [12]), (14, [13]), (15, [14]), (16, [14]), (17, [16])] ((b7, Obj.cells #[str n.f.nm, .bool n.f.nl, i64 n.f.k, i64 n.f.wd, i64 n.f.id, i64 n.f.ix, .slice fa n.f.sub.length fc] 38 (0, 0)) :: (lr, .loop bz) :: (d, .deferred (some [])) :: (b4, Obj.cells #[i64 (dmax (ns.take k) : Nat)] 3 (0, 0)) :: (b3, Obj.cells #[i64 (k : Nat)] 3 (0, 0)) :: (b2, Obj.cells #[.bool false] 4 (0, 0)) :: (b1, Obj.cells #[.slice a l.length c, .slice na nt.length nc] 25 (0, 0)) :: (N ++ Mx)) (WyI w ((b8, Obj.cells #[str n.f.nm, .bool n.f.nl, i64 n.f.k, i64 n.f.wd, i64 n.f.id, i64 n.f.ix, .slice a5 n.f.sub.length c5] 38 (0, 0)) :: (M5 ++ ((b7, Obj.cells #[str n.f.nm, .bool n.f.nl, i64 n.f.k, i64 n.f.wd, i64 n.f.id, i64 n.f.ix, .slice fa n.f.sub.length fc] 38 (0, 0)) :: (lr, .loop bz) :: (d, .deferred (some [])) :: (b4, Obj.cells #[i64 (dmax (ns.take k) : Nat)] 3 (0, 0)) :: (b3, Obj.cells #[i64 (k : Nat)] 3 (0, 0)) :: (b2, Obj.cells #[.bool false] 4 (0, 0)) :: (b1, Obj.cells #[.slice a l.length c, .slice na nt.length nc] 25 (0, 0)) :: (N ++ Mx)))) ((b7, Obj.cells #[str n.f.nm, .bool n.f.nl, i64 n.f.k, i64 n.f.wd, i64 n.f.id, i64 n.f.ix, .slice fa n.f.sub.length fc] 38 (0, 0)) :: (lr, .loop bz) :: (d, .deferred (some [])) :: (b4, Obj.cells #[i64 (dmax (ns.take k) : Nat)] 3 (0, 0)) :: (b3, Obj.cells #[i64 (k : Nat)] 3 (0, 0)) :: (b2, Obj.cells #[.bool false] 4 (0, 0)) :: (b1, Obj.cells #[.slice a l.length c, .slice na nt.length nc] 25 (0, 0)) :: (N ++ Mx)) n bw cap b3 b4 (.agg #[.slice a l.length c, .slice na nt.length nc])) (by kernel_rfl) mixed (by kernel_rfl) (by kernel_rfl) hgetO ?_ ?_ hstZ ?_
      · intro p hp D e ds L hD hdep hI
        obtain ⟨rfl, h3, h4, h6, h37, h43, h47, ho, d13, d14, d16, d17⟩ := hI
        simp only [List.mem_cons, List.mem_nil_iff, or_false] at hp
        rcases hp with rfl | rfl | rfl | rfl | rfl | rfl | rfl
        all_goals simp only [List.mem_cons, List.mem_nil_iff, or_false, forall_eq_or_imp, forall_eq, false_implies, implies_true] at hD hdep
        · rcases ho with ⟨q1, q2, q3, rfl⟩ | ⟨q, _⟩ | ⟨q, _⟩ | ⟨q, _⟩
          rotate_left
          · rw [hD] at q; cases q
          · rw [hD] at q; cases q
          · rw [hD] at q; cases q
          simp (disch := omega) only [push_cast, Nat.reduceEqDiff, h47]
          refine bs_26_1 (newI fun b hb hn => ?_)
          simp (disch := omega) only [push_cast, Nat.reduceEqDiff]
          exact ⟨_, fun w hw => hw, rfl, (by simpa [upd] using h3), (by simpa [upd] using h4), (by simpa [upd] using h6), (by simpa [upd] using h37), (by simpa [upd] using h43), (by simpa [upd] using h47), .inr (.inl ⟨by simp, by simpa using q2, by simpa using q3, b, hb, rfl, by simp [upd]⟩), (fun h => by simpa [upd] using d13 (by simpa using h)), (fun h => by simpa [upd] using d14 (by simpa using h)), (fun h => by simpa [upd] using d16 (by simpa using h)), (fun h => by simpa [upd] using d17 (by simpa using h))⟩
        · rcases ho with ⟨q, _⟩ | ⟨q1, q2, q3, b, hb, rfl, h48⟩ | ⟨_, q, _⟩ | ⟨_, q, _⟩
          · rw [hdep] at q; cases q
          rotate_left
          · rw [hD] at q; cases q
          · rw [hD] at q; cases q
          simp (disch := omega) only [push_cast, Nat.reduceEqDiff, h43, h48]
          refine appendFullI un_26 infoInt (n := n.path.length) (m := 1) (xs := ints n.path) (news := [i64 (n.f.sub.length : Nat)]) (by simp [ints]) (CanRead.of_own (.tail _ hmw) (by simp [ints]) hct) rfl (CanRead.of_own (n := 1) (cs := [i64 (n.f.sub.length : Nat)]) (.head _) rfl rfl) (by omega) (by simp only [maxLen]; omega) (by omega) (fun b' cap' cs' hb' hn' hc1 hc2 hc3 => ?_)
          simp (disch := omega) only [push_cast, Nat.reduceEqDiff]
          exact ⟨(b', Obj.cells cs'.toArray 3 (0, 0)) :: ((b8, Obj.cells #[str n.f.nm, .bool n.f.nl, i64 n.f.k, i64 n.f.wd, i64 n.f.id, i64 n.f.ix, .slice a5 n.f.sub.length c5] 38 (0, 0)) :: (M5 ++ ((b7, Obj.cells #[str n.f.nm, .bool n.f.nl, i64 n.f.k, i64 n.f.wd, i64 n.f.id, i64 n.f.ix, .slice fa n.f.sub.length fc] 38 (0, 0)) :: (lr, .loop bz) :: (d, .deferred (some [])) :: (b4, Obj.cells #[i64 (dmax (ns.take k) : Nat)] 3 (0, 0)) :: (b3, Obj.cells #[i64 (k : Nat)] 3 (0, 0)) :: (b2, Obj.cells #[.bool false] 4 (0, 0)) :: (b1, Obj.cells #[.slice a l.length c, .slice na nt.length nc] 25 (0, 0)) :: (N ++ Mx)))), fun w hw => hw.drop (.cons_cons _ (List.sublist_cons_self _ _)) (fun p hp => by
            rcases List.mem_cons.1 hp with rfl | hp
            · exact .inl (.head _)
            rcases List.mem_cons.1 hp with rfl | hp
            · exact .inr hb
            · exact .inl (.tail _ hp)), rfl, (by simpa [upd] using h3), (by simpa [upd] using h4), (by simpa [upd] using h6), (by simpa [upd] using h37), (by simpa [upd] using h43), (by simpa [upd] using h47), .inr (.inr (.inl ⟨by simpa using q1, by simp, by simpa using q3, b', cap', cs', hb', rfl, by simp [upd], hc1, hc2, by simpa [ints] using hc3⟩)), (fun h => by simpa [upd] using d13 (by simpa using h)), (fun h => by simpa [upd] using d14 (by simpa using h)), (fun h => by simpa [upd] using d16 (by simpa using h)), (fun h => by simpa [upd] using d17 (by simpa using h))⟩
        · rcases ho with ⟨_, q, _⟩ | ⟨_, q, _⟩ | ⟨q1, q2, q3, b, cap2, cs2, hb, rfl, h49, hc1, hc2, hc3⟩ | ⟨_, _, q, _⟩
          · rw [hdep] at q; cases q
          · rw [hdep] at q; cases q
          rotate_left
          · rw [hD] at q; cases q
          have hL9 : ∀ p ∈ (b, Obj.cells cs2.toArray 3 (0, 0)) :: ((b8, Obj.cells #[str n.f.nm, .bool n.f.nl, i64 n.f.k, i64 n.f.wd, i64 n.f.id, i64 n.f.ix, .slice a5 n.f.sub.length c5] 38 (0, 0)) :: (M5 ++ ((b7, Obj.cells #[str n.f.nm, .bool n.f.nl, i64 n.f.k, i64 n.f.wd, i64 n.f.id, i64 n.f.ix, .slice fa n.f.sub.length fc] 38 (0, 0)) :: (lr, .loop bz) :: (d, .deferred (some [])) :: (b4, Obj.cells #[i64 (dmax (ns.take k) : Nat)] 3 (0, 0)) :: (b3, Obj.cells #[i64 (k : Nat)] 3 (0, 0)) :: (b2, Obj.cells #[.bool false] 4 (0, 0)) :: (b1, Obj.cells #[.slice a l.length c, .slice na nt.length nc] 25 (0, 0)) :: (N ++ Mx)))), w.heap.size ≤ p.1 := fun p hp => by
            rcases List.mem_cons.1 hp with rfl | hp
            · exact hb
            · exact hL8 p hp
          have hat2 : ∀ w', Sy w ((b, Obj.cells cs2.toArray 3 (0, 0)) :: ((b8, Obj.cells #[str n.f.nm, .bool n.f.nl, i64 n.f.k, i64 n.f.wd, i64 n.f.id, i64 n.f.ix, .slice a5 n.f.sub.length c5] 38 (0, 0)) :: (M5 ++ ((b7, Obj.cells #[str n.f.nm, .bool n.f.nl, i64 n.f.k, i64 n.f.wd, i64 n.f.id, i64 n.f.ix, .slice fa n.f.sub.length fc] 38 (0, 0)) :: (lr, .loop bz) :: (d, .deferred (some [])) :: (b4, Obj.cells #[i64 (dmax (ns.take k) : Nat)] 3 (0, 0)) :: (b3, Obj.cells #[i64 (k : Nat)] 3 (0, 0)) :: (b2, Obj.cells #[.bool false] 4 (0, 0)) :: (b1, Obj.cells #[.slice a l.length c, .slice na nt.length nc] 25 (0, 0)) :: (N ++ Mx))))) w' → Calls Tryd.prog 15 #[.agg #[.slice a l.length c, .slice na nt.length nc], .slice (some ⟨b, 0, none⟩) (n.path.length + 1) cap2] w' (RetsN w' (AtS (f0, 2))) := fun w' hw' => by
            have hii : IntsAt w' (some ⟨b, 0, none⟩) (toInts (n.path ++ [n.f.sub.length])) := intsAt_own hw' (.head _) (by simpa using hc3)
            have h := at_walk w' (hs.mono hw' hL9) lo (Nat.le_trans hlo hw'.size) a l c na nt nc (k1 w' _ hL9 hw') (some ⟨b, 0, none⟩) _ cap2 hii (by rw [toInts_length, List.length_append, List.length_singleton]; omega)
            rw [toInts_length, at_beyond hnode, List.length_append, List.length_singleton] at h
            exact h
          simp (disch := omega) only [push_cast, Nat.reduceEqDiff, h37, h49]
          refine callV en_15 (callX_new hat2 (fun v M6 hM6 hMn6 hS => ?_))
          obtain ⟨a6, c6, rfl, _⟩ := hS
          simp (disch := omega) only [push_cast, Nat.reduceEqDiff]
          exact ⟨((b7, Obj.cells #[str n.f.nm, .bool n.f.nl, i64 n.f.k, i64 n.f.wd, i64 n.f.id, i64 n.f.ix, .slice fa n.f.sub.length fc] 38 (0, 0)) :: (lr, .loop bz) :: (d, .deferred (some [])) :: (b4, Obj.cells #[i64 (dmax (ns.take k) : Nat)] 3 (0, 0)) :: (b3, Obj.cells #[i64 (k : Nat)] 3 (0, 0)) :: (b2, Obj.cells #[.bool false] 4 (0, 0)) :: (b1, Obj.cells #[.slice a l.length c, .slice na nt.length nc] 25 (0, 0)) :: (N ++ Mx)), fun w hw => hstZ w (hw.drop ((List.sublist_cons_self _ _).trans (List.sublist_append_right M6 _)) (fun p hp => by
            rcases List.mem_append.1 hp with hp | hp
            · exact .inr (hM6 p hp)
            · exact .inr (hL9 p hp))), rfl, (by simpa [upd] using h3), (by simpa [upd] using h4), (by simpa [upd] using h6), (by simpa [upd] using h37), (by simpa [upd] using h43), (by simpa [upd] using h47), .inr (.inr (.inr ⟨by simpa using q1, by simpa using q2, by simp, rfl⟩)), (fun _ => ⟨fldV f0 a6 c6, by simp [upd]⟩), (fun h => by simpa [upd] using d14 (by simpa using h)), (fun h => by simpa [upd] using d16 (by simpa using h)), (fun h => by simpa [upd] using d17 (by simpa using h))⟩
        · obtain ⟨x, h50⟩ := d13 hdep
          simp (disch := omega) only [push_cast, Nat.reduceEqDiff, h50]
          exact ⟨_, fun w hw => hw, rfl, (by simpa [upd] using h3), (by simpa [upd] using h4), (by simpa [upd] using h6), (by simpa [upd] using h37), (by simpa [upd] using h43), (by simpa [upd] using h47), (by simpa [upd] using ho), (fun h => by simpa [upd] using d13 (by simpa using h)), (fun _ => ⟨x, by simp [upd]⟩), (fun h => by simpa [upd] using d16 (by simpa using h)), (fun h => by simpa [upd] using d17 (by simpa using h))⟩
        · obtain ⟨x, h36⟩ := d14 hdep
          simp (disch := omega) only [push_cast, Nat.reduceEqDiff, h36]
          exact ⟨_, fun w hw => hw, rfl, (by simpa [upd] using h3), (by simpa [upd] using h4), (by simpa [upd] using h6), (by simpa [upd] using h37), (by simpa [upd] using h43), (by simpa [upd] using h47), (by simpa [upd] using ho), (fun h => by simpa [upd] using d13 (by simpa using h)), (fun h => by simpa [upd] using d14 (by simpa using h)), (fun h => by simpa [upd] using d16 (by simpa using h)), (fun h => by simpa [upd] using d17 (by simpa using h))⟩
        · obtain ⟨x, h36⟩ := d14 hdep
          simp (disch := omega) only [push_cast, Nat.reduceEqDiff, h36]
          exact ⟨_, fun w hw => hw, rfl, (by simpa [upd] using h3), (by simpa [upd] using h4), (by simpa [upd] using h6), (by simpa [upd] using h37), (by simpa [upd] using h43), (by simpa [upd] using h47), (by simpa [upd] using ho), (fun h => by simpa [upd] using d13 (by simpa using h)), (fun h => by simpa [upd] using d14 (by simpa using h)), (fun _ => by simp [upd]), (fun h => by simpa [upd] using d17 (by simpa using h))⟩
        · have h52 := d16 hdep
          simp (disch := omega) only [push_cast, Nat.reduceEqDiff, h52]
          exact ⟨_, fun w hw => hw, rfl, (by simpa [upd] using h3), (by simpa [upd] using h4), (by simpa [upd] using h6), (by simpa [upd] using h37), (by simpa [upd] using h43), (by simpa [upd] using h47), (by simpa [upd] using ho), (fun h => by simpa [upd] using d13 (by simpa using h)), (fun h => by simpa [upd] using d14 (by simpa using h)), (fun h => by simpa [upd] using d16 (by simpa using h)), (fun _ => by simp [upd])⟩
      · intro D e ds L hD hI
        obtain ⟨rfl, h3, h4, h6, h37, h43, h47, ho, d13, d14, d16, d17⟩ := hI
        have h9 := d17 (hD 17 (by simp))
        obtain rfl : L = (b7, Obj.cells #[str n.f.nm, .bool n.f.nl, i64 n.f.k, i64 n.f.wd, i64 n.f.id, i64 n.f.ix, .slice fa n.f.sub.length fc] 38 (0, 0)) :: (lr, .loop bz) :: (d, .deferred (some [])) :: (b4, Obj.cells #[i64 (dmax (ns.take k) : Nat)] 3 (0, 0)) :: (b3, Obj.cells #[i64 (k : Nat)] 3 (0, 0)) :: (b2, Obj.cells #[.bool false] 4 (0, 0)) :: (b1, Obj.cells #[.slice a l.length c, .slice na nt.length nc] 25 (0, 0)) :: (N ++ Mx) := by
          rcases ho with ⟨q, _⟩ | ⟨_, q, _⟩ | ⟨_, _, q, _⟩ | ⟨_, _, _, q⟩
          · rw [hD 11 (by simp)] at q; cases q
          · rw [hD 12 (by simp)] at q; cases q
          · rw [hD 13 (by simp)] at q; cases q
          · exact q
        clear ho d13 d14 d16 d17 h37 h43 h47 hD e1 e3 e4 e6 e7
        simp (disch := omega) only [push_cast, Nat.reduceEqDiff, h3, h4, h6, h9, ne_eq, not_true_eq_false, decide_false]
        have hfew := few_nodes hm
        rw [← hnd] at hfew
        rw [V_cond]
        simp (disch := omega) only [push_cast, Nat.reduceEqDiff, h3, h4, h6, h9]
        refine ldOne Shp.eq mem3 rfl ?_
        simp (disch := omega) only [push_cast, Nat.reduceEqDiff, h3, h4, h6, h9]
        refine max_i64 _ _ _ _ ?_
        simp (disch := omega) only [push_cast, Nat.reduceEqDiff, h3, h4, h6, h9]
        refine storeX 3 rfl Siz.eq rfl rfl (by simp [Value.oneCell']) (by simp) ?_
        simp (disch := omega) only [push_cast, Nat.reduceEqDiff, h3, h4, h6, h9]
        refine ldOne Shp.eq mem4 rfl ?_
        simp (disch := omega) only [push_cast, Nat.reduceEqDiff, h3, h4, h6, h9]
        refine storeX 4 rfl Siz.eq rfl rfl (by simp [Value.oneCell']) (by simp) ?_
        simp (disch := omega) only [push_cast, Nat.reduceEqDiff, h3, h4, h6, h9]
        refine ldOne Shp.eq mem4 rfl ?_
        simp (disch := omega) only [push_cast, Nat.reduceEqDiff, h3, h4, h6, h9]
        rw [V_cond]
        simp (disch := omega) only [push_cast, Nat.reduceEqDiff, h3, h4, h6, h9]
        refine condX_d (fun h300 => absurd h300 (by omega)) (fun _ => ?_)
        simp (disch := omega) only [push_cast, Nat.reduceEqDiff, h3, h4, h6, h9]
        subst hbz
        refine ⟨1, _, rfl, fun w4 hw4 => .inl ⟨rfl, [_, _, _, _, _, _], ⟨hklt, ?_⟩, hw4.drop ((((((((List.sublist_append_right N Mx).cons_cons _).cons_cons _).cons_cons _).cons_cons _).cons_cons _).cons_cons _).cons _) (fun p hp => .inr ?_)⟩⟩
        · have hmx : ((dmax (ns.take (k + 1)) : Nat) : Int) = max ((dmax (ns.take k) : Nat) : Int) (n.path.length : Int) := by rw [hdm]; omega
          rw [hmx]
          rfl
        · simp only [List.set_cons_succ, List.set_cons_zero, List.mem_cons] at hp
          rcases hp with rfl | rfl | rfl | rfl | rfl | rfl | rfl | hp
          · exact hb7
          · exact hlr
          · exact hd
          · exact hb4
          · exact hb3
          · exact hb2
          · exact hb1
          · exact hNM p hp
      · simp (disch := omega) only [push_cast, Nat.reduceEqDiff, e1, e3, e4, e6, e7]
        refine loadX_agg (cs := [.slice a l.length c, .slice na nt.length nc]) (ty := 25) (fr := (0, 0)) Shp.eq (by simp) rfl rfl ?_
        simp (disch := omega) only [push_cast, Nat.reduceEqDiff, e1, e3, e4, e6, e7, Int.toNat_natCast]
        refine ldOne Shp.eq mem0 rfl ?_
        simp (disch := omega) only [push_cast, Nat.reduceEqDiff, e1, e3, e4, e6, e7]
        exact ⟨rfl, e3, e4, e6, by simp [upd], by simp [upd], by simp [upd], .inl ⟨by simp, by simp, by simp, rfl⟩, (fun h => by simp at h), (fun h => by simp at h), (fun h => by simp at h), (fun h => by simp at h)⟩
      -- tail ends
    · intro x hx
      rw [hns] at hx
      unfold walkL at hx
      cases hm : mayP l nt with
      | false => rw [hm] at hx; rw [if_neg (by simp), nd_nil] at hx; cases hx
      | true => rw [hm] at hx; exact nd_ok 64 [] false l (small_may hm).1 x hx
    · rintro en w4 ⟨rfl, h⟩
      rcases h with ⟨C', ⟨_, rfl⟩, hw4⟩ | ⟨k, C', hJ, hw4⟩
      · refine ⟨w, _, 0, rec, rfl, by rw [hrec]; simp, hw4, ?_⟩
        have hp : rec.pending = none := by rw [hrec]
        rw [hp]
        simp (disch := omega) only [push_cast, Nat.reduceEqDiff, e1, e2, e3, e4]
        rw [List.take_length]
        exact ⟨rfl, ⟨d, lr, _, hd, hlr, rfl, rfl⟩, e1, e2, e3, e4⟩
      · exact hJ.elim
  · rintro wb e ds L ⟨rfl, ⟨d, lr, x, hd, hlr, rfl, rfl⟩, h1, h2, h3, h4⟩
    have hLW : ∀ p ∈ (lr, x) :: (d, .deferred (some [])) :: (b4, Obj.cells #[i64 (dmax ns : Nat)] 3 (0, 0)) :: (b3, Obj.cells #[i64 (ns.length : Nat)] 3 (0, 0)) :: (b2, Obj.cells #[.bool false] 4 (0, 0)) :: (b1, Obj.cells #[.slice a l.length c, .slice na nt.length nc] 25 (0, 0)) :: M, wb.heap.size ≤ p.1 := fun p hp => by
      simp only [List.mem_cons] at hp
      rcases hp with rfl | rfl | rfl | rfl | rfl | rfl | hp
      · exact hlr
      · exact hd
      · exact hb4
      · exact hb3
      · exact hb2
      · exact hb1
      · exact hM p hp
    simp (disch := omega) only [push_cast, Nat.reduceEqDiff, h1, h2, h3, h4]
    refine ldOne Shp.eq mem5 rfl ?_
    simp (disch := omega) only [push_cast, Nat.reduceEqDiff, h1, h2, h3, h4]
    refine cutV (AfI wb [{ target := .collected d, args := #[] }] ((lr, x) :: (d, .deferred (some [])) :: (b4, Obj.cells #[i64 (dmax ns : Nat)] 3 (0, 0)) :: (b3, Obj.cells #[i64 (ns.length : Nat)] 3 (0, 0)) :: (b2, Obj.cells #[.bool false] 4 (0, 0)) :: (b1, Obj.cells #[.slice a l.length c, .slice na nt.length nc] 25 (0, 0)) :: M) l ns b1 b2 b3 b4) ?_ ?_
    · rw [V_block]
      simp (disch := omega) only [push_cast, Nat.reduceEqDiff, h1, h2, h3, h4]
      refine loopW (G := Nat) (LfI wb [{ target := .collected d, args := #[] }] ((lr, x) :: (d, .deferred (some [])) :: (b4, Obj.cells #[i64 (dmax ns : Nat)] 3 (0, 0)) :: (b3, Obj.cells #[i64 (ns.length : Nat)] 3 (0, 0)) :: (b2, Obj.cells #[.bool false] 4 (0, 0)) :: (b1, Obj.cells #[.slice a l.length c, .slice na nt.length nc] 25 (0, 0)) :: M) l a c b1 b2 b3 b4) (fun i => l.length - i) 0 _ (fun w hw => hw) (by kernel_rfl) ⟨rfl, rfl, rfl, by omega, h1, h2, h3, h4, rfl, rfl, rfl, rfl⟩ ?_
      rintro i wb e ds L ⟨rfl, rfl, rfl, hil, h1, h2, h3, h4, h10, h64, h65, h66⟩
      simp (disch := omega) only [push_cast, Nat.reduceEqDiff, h1, h2, h3, h4, h10, h64, h65, h66]
      rw [V_cond]
      simp (disch := omega) only [push_cast, Nat.reduceEqDiff, h1, h2, h3, h4, h10, h64, h65, h66]
      refine condX_d (fun hlt => ?_) (fun hge => ?_)
      · obtain ⟨f, hf⟩ : ∃ f, l[i]? = some f := ⟨_, List.getElem?_eq_getElem (by omega)⟩
        obtain ⟨b, off, rfl, hb⟩ : ∃ b off, a = some ⟨b, off, none⟩ ∧ b < lo := by
          obtain ⟨f0, l0, rfl⟩ : ∃ f l', l = f :: l' := List.exists_cons_of_ne_nil (by rintro rfl; simp at hf)
          exact hsc.hr.some_of
        obtain ⟨fa, fc, x1, x2, x3, x4, x5, x6⟩ := hsc.hr.get i hf
        have hmt := most_take hf
        have hl63 := Nat.le_trans hsc.hc hsc.hc2
        simp (disch := omega) only [push_cast, Nat.reduceEqDiff, h1, h2, h3, h4, h10, h64, h65, h66]
        rw [V_block]
        simp (disch := omega) only [push_cast, Nat.reduceEqDiff, h1, h2, h3, h4, h10, h64, h65, h66]
        refine ldAggF Shp.eq x2 rfl (out_of (fun p hp => Nat.lt_of_lt_of_le (Nat.lt_of_lt_of_le x1 hlo) (hLW p hp))) ?_
        simp (disch := omega) only [push_cast, Nat.reduceEqDiff, h1, h2, h3, h4, h10, h64, h65, h66, Fld.cells]
        refine newI (fun b12 hb12 hn12 => ?_)
        simp (disch := omega) only [push_cast, Nat.reduceEqDiff, h1, h2, h3, h4, h10, h64, h65, h66]
        refine storeX 0 rfl Siz.eq rfl rfl (by simp [Value.oneCell']) (by simp) ?_
        simp (disch := omega) only [push_cast, Nat.reduceEqDiff, h1, h2, h3, h4, h10, h64, h65, h66]
        have hL12 : ∀ p ∈ (b12, Obj.cells #[str f.nm, .bool f.nl, i64 f.k, i64 f.wd, i64 f.id, i64 f.ix, .slice fa f.sub.length fc] 38 (0, 0)) :: ((lr, x) :: (d, .deferred (some [])) :: (b4, Obj.cells #[i64 (dmax ns : Nat)] 3 (0, 0)) :: (b3, Obj.cells #[i64 (ns.length : Nat)] 3 (0, 0)) :: (b2, Obj.cells #[.bool false] 4 (0, 0)) :: (b1, Obj.cells #[.slice (some ⟨b, off, none⟩) l.length c, .slice na nt.length nc] 25 (0, 0)) :: M), wb.heap.size ≤ p.1 := fun p hp => by
          rcases List.mem_cons.1 hp with rfl | hp
          · exact hb12
          · exact hLW p hp
        refine loadX_agg Shp.eq mem0 rfl rfl ?_
        simp (disch := omega) only [push_cast, Nat.reduceEqDiff, h1, h2, h3, h4, h10, h64, h65, h66]
        refine callV en_17 (callX_is (fun w' hw' => depth_walk w' (hs.mono hw' hL12) lo (Nat.le_trans hlo hw'.size) f fa fc ⟨x6.sy hlo hw' (fun p hp => Nat.le_trans hlo (hL12 p hp)), x3, x5⟩) ?_)
        rw [depth_nat]
        simp (disch := omega) only [push_cast, Nat.reduceEqDiff, h1, h2, h3, h4, h10, h64, h65, h66]
        refine max_i64 _ _ _ _ ?_
        simp (disch := omega) only [push_cast, Nat.reduceEqDiff, h1, h2, h3, h4, h10, h64, h65, h66]
        refine ldOne Shp.eq mem4 rfl ?_
        simp (disch := omega) only [push_cast, Nat.reduceEqDiff, h1, h2, h3, h4, h10, h64, h65, h66]
        have hmx : ((mostN (l.take (i + 1)) : Nat) : Int) = max ((mostN (l.take i) : Nat) : Int) (dpN f : Int) := by rw [hmt]; omega
        have hdrop : ∀ w', Sy wb ((b12, Obj.cells #[str f.nm, .bool f.nl, i64 f.k, i64 f.wd, i64 f.id, i64 f.ix, .slice fa f.sub.length fc] 38 (0, 0)) :: ((lr, x) :: (d, .deferred (some [])) :: (b4, Obj.cells #[i64 (dmax ns : Nat)] 3 (0, 0)) :: (b3, Obj.cells #[i64 (ns.length : Nat)] 3 (0, 0)) :: (b2, Obj.cells #[.bool false] 4 (0, 0)) :: (b1, Obj.cells #[.slice (some ⟨b, off, none⟩) l.length c, .slice na nt.length nc] 25 (0, 0)) :: M)) w' → Sy wb ((lr, x) :: (d, .deferred (some [])) :: (b4, Obj.cells #[i64 (dmax ns : Nat)] 3 (0, 0)) :: (b3, Obj.cells #[i64 (ns.length : Nat)] 3 (0, 0)) :: (b2, Obj.cells #[.bool false] 4 (0, 0)) :: (b1, Obj.cells #[.slice (some ⟨b, off, none⟩) l.length c, .slice na nt.length nc] 25 (0, 0)) :: M) w' := fun w' h => h.drop (List.sublist_cons_self _ _) (fun p hp => by
          rcases List.mem_cons.1 hp with rfl | hp
          · exact .inr hb12
          · exact .inl hp)
        rw [V_cond]
        simp (disch := omega) only [push_cast, Nat.reduceEqDiff, h1, h2, h3, h4, h10, h64, h65, h66]
        refine condX_d (fun hz => ?_) (fun hz => ?_)
        · simp (disch := omega) only [push_cast, Nat.reduceEqDiff, h1, h2, h3, h4, h10, h64, h65, h66]
          refine ⟨rfl, rfl, ⟨[_], rfl, fun p hp => by rw [List.mem_singleton.1 hp]; exact hb12⟩, h1, h2, h3, h4, mostN (l.take (i + 1)), ?_, fun h => by omega⟩
          rw [hmx]
          rfl
        · simp (disch := omega) only [push_cast, Nat.reduceEqDiff, h1, h2, h3, h4, h10, h64, h65, h66]
          refine ⟨i + 1, _, hdrop, ⟨rfl, rfl, rfl, by omega, h1, h2, h3, h4, ?_, h64, h65, by simp only [upd]; rfl⟩, by omega⟩
          rw [hmx]
          rfl
      · obtain rfl : i = l.length := by omega
        rw [List.take_length] at h10
        simp (disch := omega) only [push_cast, Nat.reduceEqDiff, h1, h2, h3, h4, h10, h64, h65, h66]
        exact ⟨rfl, rfl, ⟨[], rfl, by simp⟩, h1, h2, h3, h4, _, h10, fun _ => rfl⟩
    · rintro wb e ds L ⟨rfl, rfl, ⟨X, rfl, hX⟩, h1, h2, h3, h4, mo, h10, hmo⟩
      simp (disch := omega) only [push_cast, Nat.reduceEqDiff, h1, h2, h3, h4, h10]
      refine semT_weak (L' := (lr, x) :: (d, .deferred (some [])) :: (b4, Obj.cells #[i64 (dmax ns : Nat)] 3 (0, 0)) :: (b3, Obj.cells #[i64 (ns.length : Nat)] 3 (0, 0)) :: (b2, Obj.cells #[.bool false] 4 (0, 0)) :: (b1, Obj.cells #[.slice a l.length c, .slice na nt.length nc] 25 (0, 0)) :: M) (fun w' h => h.drop (List.sublist_append_right X _) (fun p hp => by
        rcases List.mem_append.1 hp with hp | hp
        · exact .inr (hX p hp)
        · exact .inl hp)) ?_
      have hcnt : countP l nt = (ns.length : Nat) := by
        unfold countP
        rw [hns]
        unfold walkL
        cases hm : mayP l nt with
        | false => rw [if_neg (by simp), if_neg (by simp), nd_nil]; rfl
        | true => rw [if_pos rfl, if_pos rfl]
      have heq : 0 < ns.length → dmax ns = mostN l := fun h => by
        rw [hns]
        rw [hns] at h
        unfold walkL at h ⊢
        cases hm : mayP l nt with
        | false => rw [hm, if_neg (by simp), nd_nil] at h; simp at h
        | true => rw [if_pos rfl, most_law hm]
      refine drawTT 13 (by kernel_rfl) (by kernel_rfl) mixed (by kernel_rfl) rfl rfl ?_
      simp (disch := omega) only [push_cast, Nat.reduceEqDiff, h1, h2, h3, h4, h10]
      refine ldOne Shp.eq mem3 rfl ?_
      simp (disch := omega) only [push_cast, Nat.reduceEqDiff, h1, h2, h3, h4, h10]
      refine loadX_agg Shp.eq mem5 rfl rfl ?_
      simp (disch := omega) only [push_cast, Nat.reduceEqDiff, h1, h2, h3, h4, h10]
      refine qcallV en_18 (qcallX_is _ (fun w' hw' => count_walk w' (hs.mono hw' hLW) lo (Nat.le_trans hlo hw'.size) a l c na nt nc (k1 w' _ hLW hw')) ?_)
      rw [hcnt]
      simp (disch := omega) only [push_cast, Nat.reduceEqDiff, h1, h2, h3, h4, h10, decide_true]
      refine ldOne Shp.eq mem3 rfl ?_
      simp (disch := omega) only [push_cast, Nat.reduceEqDiff, h1, h2, h3, h4, h10]
      by_cases hN : ns.length = 0
      · have dN : decide ((ns.length : Int) = 0) = true := decide_eq_true (by omega)
        simp (disch := omega) only [push_cast, Nat.reduceEqDiff, h1, h2, h3, h4, h10, dN]
        refine storeX 4 rfl Siz.eq rfl rfl (by simp [Value.oneCell']) (by simp) ?_
        simp (disch := omega) only [push_cast, Nat.reduceEqDiff, h1, h2, h3, h4]
        refine ⟨d, 1, rfl, rfl, ?_⟩
        simp (disch := omega) only [push_cast, Nat.reduceEqDiff, h1, h2, h3, h4]
        refine ldOne Shp.eq mem4 rfl ?_
        simp (disch := omega) only [push_cast, Nat.reduceEqDiff, h1, h2, h3, h4]
        refine finIs (fun p hp => ?_) rfl
        simp only [List.mem_cons] at hp
        rcases hp with rfl | rfl | rfl | rfl | rfl | rfl | hp
        · exact hlr
        · exact hd
        · exact hb4
        · exact hb3
        · exact hb2
        · exact hb1
        · exact hM p hp
      · have dN : decide ((ns.length : Int) = 0) = false := decide_eq_false (by omega)
        simp (disch := omega) only [push_cast, Nat.reduceEqDiff, h1, h2, h3, h4, h10, dN]
        refine ldOne Shp.eq mem2 rfl ?_
        rw [hmo (by omega)] at h10
        rw [heq (by omega)]
        simp (disch := omega) only [push_cast, Nat.reduceEqDiff, h1, h2, h3, h4, h10, dN, decide_true]
        refine storeX 4 rfl Siz.eq rfl rfl (by simp [Value.oneCell']) (by simp) ?_
        simp (disch := omega) only [push_cast, Nat.reduceEqDiff, h1, h2, h3, h4]
        refine ⟨d, 1, rfl, rfl, ?_⟩
        simp (disch := omega) only [push_cast, Nat.reduceEqDiff, h1, h2, h3, h4]
        refine ldOne Shp.eq mem4 rfl ?_
        simp (disch := omega) only [push_cast, Nat.reduceEqDiff, h1, h2, h3, h4]
        refine finIs (fun p hp => ?_) rfl
        simp only [List.mem_cons] at hp
        rcases hp with rfl | rfl | rfl | rfl | rfl | rfl | hp
        · exact hlr
        · exact hd
        · exact hb4
        · exact hb3
        · exact hb2
        · exact hb1
        · exact hM p hp
end Go.Proofs.YtgbafmjgfbgeoaaDoor
