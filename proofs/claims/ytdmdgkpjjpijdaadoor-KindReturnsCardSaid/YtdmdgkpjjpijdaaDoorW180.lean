/- YtdmdgkpjjpijdaaDoor: walks, part 179: what is read may be, is printed, and is read again as the same. -/
import Derived.Test.YtdmdgkpjjpijdaaDoorW176
import Derived.Test.YtdmdgkpjjpijdaaDoorW177
import Derived.Test.YtdmdgkpjjpijdaaDoorW178
import Derived.Test.YtdmdgkpjjpijdaaDoorW153
import Derived.Test.YtdmdgkpjjpijdaaDoorW14
import Derived.Test.YtdmdgkpjjpijdaaDoorW175
import Derived.Test.YtdmdgkpjjpijdaaDoorW36
namespace Go.Proofs.YtdmdgkpjjpijdaaDoor
open Go Go.K
set_option maxRecDepth 100000
set_option linter.unusedVariables false
set_option linter.unusedSimpArgs false
set_option maxHeartbeats 4000000
theorem sch_own {wb w : World} {L K1 K2 : Own} {l : List Fld} {nt : List NoteT} {a na : Option Addr} {c nc : Nat} (h1 : OwS l K1 a c) (h2 : OwN nt K2 na nc) (hw : Sy wb L w) (s1 : ∀ p ∈ K1, p ∈ L) (s2 : ∀ p ∈ K2, p ∈ L) (hm : mayP l nt = true) :
    SchAt w w.heap.size a l c na nt nc :=
  ⟨h1.rd hw s1, h1.le.1, h1.le.2, h2.rdn (fun n hn => by have := (notes_may hm).2 n hn; omega) hw s2, h2.le.1, h2.le.2⟩
theorem check_may {l : List Fld} {nt : List NoteT} (h : mayP l nt = true) : (checkP l nt).1 = 0 := by
  unfold mayP at h
  simpa using h
theorem print_ok {l : List Fld} {nt : List NoteT} (h : mayP l nt = true) : printG l nt = (outT l nt, 0) := by unfold printG; rw [if_pos h]
theorem parse_out {l : List Fld} {nt : List NoteT} (h : mayP l nt = true) : parseP (outT l nt) = ⟨l, nt, 0, 0⟩ := by
  obtain ⟨xs, rfl, h2⟩ := print_read h
  exact parse_of (out_short h) h2 h
theorem check_ok (w : World) (hs : SaysAt w) {lo : Nat} (hlo : lo ≤ w.heap.size) {a : Option Addr} {l : List Fld} {c : Nat} {na : Option Addr} {nt : List NoteT} {nc : Nat} (h : SchAt w lo a l c na nt nc) (hm : mayP l nt = true) :
    Calls Tryd.prog 7 #[schV a l c na nt nc] w (Rets w fun v _ => ∃ (pa : Option Addr) (n pc : Nat) (z : Int), v = .agg #[i64 0, .slice pa n pc, i64 z]) :=
  (check_walk w hs lo hlo l a c h.hr h.hc h.hc2 nt na nc h.hn h.hnc h.hnc2).mono fun e w' ⟨v, M, he, hw', hM, pa, pc, hv, _⟩ => ⟨v, he, hw'.end hM, pa, _, pc, _, hv.trans (by rw [check_may hm])⟩
theorem print_is (w : World) (hs : SaysAt w) {lo : Nat} (hlo : lo ≤ w.heap.size) {a : Option Addr} {l : List Fld} {c : Nat} {na : Option Addr} {nt : List NoteT} {nc : Nat} (h : SchAt w lo a l c na nt nc) (hm : mayP l nt = true) :
    Calls Tryd.prog 8 #[schV a l c na nt nc] w (Rets w (Is (.tuple #[str (outT l nt), i64 0]))) := by
  have h1 := printG_walk w hs lo hlo a l c na nt nc h (fun hm => print_may hm)
  rw [print_ok hm] at h1
  exact h1
theorem parse_is (w : World) (hs : SaysAt w) (hl : LibAt w) {l : List Fld} {nt : List NoteT} (hm : mayP l nt = true) :
    Calls Tryd.prog 6 #[str (outT l nt)] w (RetsN w (PsV ⟨l, nt, 0, 0⟩)) := by
  have h1 := parse_walk w hs hl (outT l nt) (by have := out_short hm; omega)
  rw [parse_out hm] at h1
  exact h1
theorem kindReads_walk (w : World) (hs : SaysAt w) (hl : LibAt w) (t : List UInt8) (ht : t.length ≤ 9223372036854775807) :
    Calls Tryd.prog 3 #[str t] w (Rets w (Is (.bool true))) := by
  refine enterT (args := [str t]) Tryd.func3 rfl Tryd.ntmps3 (congrArg Array.toList Tryd.results3) (by kernel_rfl) (by simp) (Sy.refl w) ?_
  simp (disch := omega) only [push_cast, Nat.reduceEqDiff]
  refine callV en_5 (callX_is (fun w' hw' => awake_walk w' (hs.mono hw' (by simp))) ?_)
  simp (disch := omega) only [push_cast, Nat.reduceEqDiff, Bool.not_true]
  rw [V_cond]
  simp (disch := omega) only [push_cast, Nat.reduceEqDiff]
  refine callV en_6 (callX_new (fun w' hw' => parse_walk w' (hs.mono hw' (by simp)) (hl.mono hw' (by simp)) t ht) (fun v M hM hn hS => ?_))
  have f1 := @parse_may t
  have f2 := @parse_no t
  generalize parseP t = r at hS f1 f2
  obtain ⟨l, nt, e0, at0⟩ := r
  (refine Exists.elim (hS) (fun a hz => Exists.elim hz (fun c hz => Exists.elim hz (fun na hz => Exists.elim hz (fun nc hz => Exists.elim hz (fun K1 hz => Exists.elim hz (fun K2 hz => Exists.elim hz (fun R hz => ?_))))))); have ez := hz.1; subst ez; have ez := hz.2.1; subst ez; have hO1 := hz.2.2.1; have hO2 := hz.2.2.2; clear hz)
  simp (disch := omega) only [push_cast, Nat.reduceEqDiff]
  refine newI (fun b3 hb3 hn3 => ?_)
  simp (disch := omega) only [push_cast, Nat.reduceEqDiff]
  refine storeX 0 rfl Siz.eq rfl rfl (by simp [Value.oneCell']) (by simp) ?_
  simp (disch := omega) only [push_cast, Nat.reduceEqDiff]
  rw [V_cond]
  simp (disch := omega) only [push_cast, Nat.reduceEqDiff]
  refine condX_d (fun hne => ?_) (fun heq => ?_)
  · obtain ⟨rfl, rfl⟩ := f2 hne
    simp (disch := omega) only [push_cast, Nat.reduceEqDiff]
    repeat' (first | ((first | refine guardX_t rfl (fun h => ?_) (fun h => ?_) | refine guardX_f rfl (fun h => ?_) (fun h => ?_) | refine condX_d (fun h => ?_) (fun h => ?_) | (refine guardX_bt rfl (fun h => ?_) (fun h => ?_) <;> (try subst h)) | (refine guardX_bf rfl (fun h => ?_) (fun h => ?_) <;> (try subst h)) | (refine condX_b (fun h => ?_) (fun h => ?_) <;> (try subst h)) | refine ldOne Shp.eq (by (first | exact mem0 | exact mem1 | exact mem2 | exact mem3 | exact mem4 | exact mem5)) rfl ?_ | refine loadX_agg Shp.eq (by (first | exact mem0 | exact mem1 | exact mem2 | exact mem3 | exact mem4 | exact mem5)) rfl rfl ?_ | refine newI (fun b hb hn => ?_) | refine storeX 0 rfl Siz.eq rfl rfl (by simp [Value.oneCell']) (by simp) ?_ | refine storeX 1 rfl Siz.eq rfl rfl (by simp [Value.oneCell']) (by simp) ?_ | refine storeX 2 rfl Siz.eq rfl rfl (by simp [Value.oneCell']) (by simp) ?_ | refine storeX 3 rfl Siz.eq rfl rfl (by simp [Value.oneCell']) (by simp) ?_ | refine storeX 4 rfl Siz.eq rfl rfl (by simp [Value.oneCell']) (by simp) ?_ | refine storeX 5 rfl Siz.eq rfl rfl (by simp [Value.oneCell']) (by simp) ?_ | refine storeX 6 rfl Siz.eq rfl rfl (by simp [Value.oneCell']) (by simp) ?_) <;> simp (disch := omega) only [push_cast, Nat.reduceEqDiff, decide_true]) | (first | rw [V_cond] | rw [V_block]) <;> (try simp (disch := omega) only [push_cast, Nat.reduceEqDiff, decide_true]))
    exact finIs (fun p hp => by
      rcases List.mem_cons.1 hp with rfl | hp
      · exact hb3
      · exact hM p (by simpa using hp)) rfl
  obtain rfl : e0 = 0 := by simpa using heq
  obtain ⟨hm, rfl⟩ := f1 rfl
  clear f1 f2 heq
  simp only at hm
  have hL1 : ∀ p ∈ (b3, Obj.cells #[.slice a l.length c, .slice na nt.length nc] 26 (0, 0)) :: (K1 ++ (K2 ++ R)), w.heap.size ≤ p.1 := fun p hp => by
    rcases List.mem_cons.1 hp with rfl | hp
    · exact hb3
    · exact hM p hp
  have sch1 : ∀ w' L', Sy w L' w' → (∀ p ∈ (b3, Obj.cells #[.slice a l.length c, .slice na nt.length nc] 26 (0, 0)) :: (K1 ++ (K2 ++ R)), p ∈ L') → SchAt w' w'.heap.size a l c na nt nc := fun w' L' hw' hL' =>
    sch_own hO1 hO2 hw' (fun p hp => hL' p (.tail _ (List.mem_append_left _ hp))) (fun p hp => hL' p (.tail _ (List.mem_append_right _ (List.mem_append_left _ hp)))) hm
  refine forget (fun e => e 3 = .pointer (some ⟨b3, 0, none⟩)) (by simp [upd]) ?_
  rintro e e3
  simp (disch := omega) only [push_cast, Nat.reduceEqDiff, e3]
  refine loadX_agg Shp.eq mem0 rfl rfl ?_
  simp (disch := omega) only [push_cast, Nat.reduceEqDiff, e3]
  refine callV en_7 (callX_ex (fun w' hw' => check_ok w' (hs.mono hw' hL1) (Nat.le_refl _) (sch1 w' _ hw' (fun p hp => hp)) hm) (fun v hv => ?_))
  (refine Exists.elim (hv) (fun pa hz => Exists.elim hz (fun pn hz => Exists.elim hz (fun pc hz => Exists.elim hz (fun pz hz => ?_)))); have ez := hz; subst ez; clear hz)
  simp (disch := omega) only [push_cast, Nat.reduceEqDiff, e3, ne_eq, not_true_eq_false, decide_false]
  rw [V_cond]
  simp (disch := omega) only [push_cast, Nat.reduceEqDiff, e3]
  refine loadX_agg Shp.eq mem0 rfl rfl ?_
  simp (disch := omega) only [push_cast, Nat.reduceEqDiff, e3]
  refine callV en_8 (callX_is (fun w' hw' => print_is w' (hs.mono hw' hL1) (Nat.le_refl _) (sch1 w' _ hw' (fun p hp => hp)) hm) ?_)
  simp (disch := omega) only [push_cast, Nat.reduceEqDiff, e3]
  refine callV en_6 (callX_new (fun w' hw' => parse_is w' (hs.mono hw' hL1) (hl.mono hw' hL1) hm) (fun v M2 hM2 hn2 hS2 => ?_))
  (refine Exists.elim (hS2) (fun a' hz => Exists.elim hz (fun c' hz => Exists.elim hz (fun na' hz => Exists.elim hz (fun nc' hz => Exists.elim hz (fun K1' hz => Exists.elim hz (fun K2' hz => Exists.elim hz (fun R' hz => ?_))))))); have ez := hz.1; subst ez; have ez := hz.2.1; subst ez; have hO1' := hz.2.2.1; have hO2' := hz.2.2.2; clear hz)
  simp (disch := omega) only [push_cast, Nat.reduceEqDiff, e3]
  refine newI (fun b7 hb7 hn7 => ?_)
  simp (disch := omega) only [push_cast, Nat.reduceEqDiff, e3]
  refine storeX 0 rfl Siz.eq rfl rfl (by simp [Value.oneCell']) (by simp) ?_
  simp (disch := omega) only [push_cast, Nat.reduceEqDiff, e3]
  have hL2 : ∀ p ∈ (b7, Obj.cells #[.slice a' l.length c', .slice na' nt.length nc'] 26 (0, 0)) :: ((K1' ++ (K2' ++ R')) ++ ((b3, Obj.cells #[.slice a l.length c, .slice na nt.length nc] 26 (0, 0)) :: (K1 ++ (K2 ++ R)))), w.heap.size ≤ p.1 := fun p hp => by
    rcases List.mem_cons.1 hp with rfl | hp
    · exact hb7
    rcases List.mem_append.1 hp with hp | hp
    · exact hM2 p hp
    · exact hL1 p hp
  have sch2 : ∀ w', Sy w ((b7, Obj.cells #[.slice a' l.length c', .slice na' nt.length nc'] 26 (0, 0)) :: ((K1' ++ (K2' ++ R')) ++ ((b3, Obj.cells #[.slice a l.length c, .slice na nt.length nc] 26 (0, 0)) :: (K1 ++ (K2 ++ R))))) w' → SchAt w' w'.heap.size a' l c' na' nt nc' := fun w' hw' =>
    sch_own hO1' hO2' hw' (fun p hp => by simp [hp]) (fun p hp => by simp [hp]) hm
  refine loadX_agg Shp.eq mem0 rfl rfl ?_
  simp (disch := omega) only [push_cast, Nat.reduceEqDiff, e3]
  refine callV en_8 (callX_is (fun w' hw' => print_is w' (hs.mono hw' hL2) (Nat.le_refl _) (sch2 w' hw') hm) ?_)
  simp (maxSteps := 1000000) (disch := omega) only [push_cast, Nat.reduceEqDiff, e3, decide_true]
  refine loadX_agg Shp.eq (.tail _ (List.mem_append_right _ mem0)) rfl rfl ?_
  simp (maxSteps := 1000000) (disch := omega) only [push_cast, Nat.reduceEqDiff, e3, decide_true]
  refine loadX_agg Shp.eq mem0 rfl rfl ?_
  simp (maxSteps := 1000000) (disch := omega) only [push_cast, Nat.reduceEqDiff, e3, decide_true]
  refine callV en_9 (callX_is (fun w' hw' => eqSchema_walk w' w'.heap.size w'.heap.size l nt a a' c c' na na' nc nc' (Nat.le_refl _) (Nat.le_refl _) (sch1 w' _ hw' (fun p hp => .tail _ (List.mem_append_right _ hp))) (sch2 w' hw')) ?_)
  simp (maxSteps := 1000000) (disch := omega) only [push_cast, Nat.reduceEqDiff, e3, decide_true]
  exact finIs hL2 rfl
end Go.Proofs.YtdmdgkpjjpijdaaDoor
/- YtdmdgkpjjpijdaaDoor: walks, part 180: the text of a schema that may be is read as just that schema. -/
namespace Go.Proofs.YtdmdgkpjjpijdaaDoor
open Go Go.K
set_option maxRecDepth 100000
set_option linter.unusedVariables false
set_option linter.unusedSimpArgs false
set_option maxHeartbeats 4000000
theorem SchAt.up {w : World} {lo lo' : Nat} {a : Option Addr} {l : List Fld} {c : Nat} {na : Option Addr} {nt : List NoteT} {nc : Nat} (h : SchAt w lo a l c na nt nc) (hle : lo ≤ lo') : SchAt w lo' a l c na nt nc :=
  ⟨h.hr.weaken hle, h.hc, h.hc2, by
    rcases h.hn with h | ⟨b, off, h1, h2, h3⟩
    · exact .inl h
    · exact .inr ⟨b, off, h1, Nat.lt_of_lt_of_le h2 hle, h3⟩, h.hnc, h.hnc2⟩
theorem may_one {l : List Fld} {nt : List NoteT} {f : Fld} (h : mayP l nt = true) (hf : f ∈ l) : mayP [f] [] = true := may_less (List.singleton_sublist.2 hf) h (.inr rfl)
theorem parseF_out {f : Fld} (h : mayP [f] [] = true) : parseF (fieldT f) = ⟨f, 0, 0⟩ := by
  obtain ⟨sp, h2⟩ := print_readF h
  exact parseF_of (field_short h) h2 h
theorem parseF_is (w : World) (hs : SaysAt w) (hl : LibAt w) {f : Fld} (hm : mayP [f] [] = true) : Calls Tryd.prog 12 #[str (fieldT f)] w (RetsN w (PfV ⟨f, 0, 0⟩)) := by
  have h1 := parseField_walk w hs hl (fieldT f) (by have := field_short hm; omega) (by rw [parseF_out hm])
  rw [parseF_out hm] at h1
  exact h1
theorem printF_is (w : World) (hs : SaysAt w) {lo : Nat} (hlo : lo ≤ w.heap.size) {f : Fld} {a : Option Addr} {c : Nat} (hr : Rd w lo a f.sub) (h1 : f.sub.length ≤ c) (h2 : c ≤ 9223372036854775807) (hn : f.nm.length ≤ 9223372036854775807) (hm : mayP [f] [] = true) :
    Calls Tryd.prog 11 #[.agg #[str f.nm, .bool f.nl, i64 f.k, i64 f.wd, i64 f.id, i64 f.ix, .slice a f.sub.length c]] w (Rets w (Is (.tuple #[str (fieldT f), i64 0]))) := by
  have h3 := printField_walk w hs lo hlo f a c hr h1 h2 hn (fun hm => printF_may hm)
  rw [show printF f = (fieldT f, 0) from if_pos hm] at h3
  exact h3
theorem checkF_ok (w : World) (hs : SaysAt w) {lo : Nat} (hlo : lo ≤ w.heap.size) {f : Fld} {a : Option Addr} {c : Nat} (hr : Rd w lo a f.sub) (h1 : f.sub.length ≤ c) (h2 : c ≤ 9223372036854775807) (hn : f.nm.length ≤ 9223372036854775807) (hm : mayP [f] [] = true) :
    Calls Tryd.prog 14 #[.agg #[str f.nm, .bool f.nl, i64 f.k, i64 f.wd, i64 f.id, i64 f.ix, .slice a f.sub.length c]] w (Rets w fun v _ => ∃ (pa : Option Addr) (n pc : Nat) (z : Int), v = .agg #[i64 0, .slice pa n pc, i64 z]) :=
  (checkField_walk w hs lo hlo f a c hr h1 h2 hn).mono fun e w' ⟨v, M, he, hw', hM, pa, pc, hv, _⟩ => ⟨v, he, hw'.end hM, pa, _, pc, _, hv.trans (by rw [check_may hm])⟩
theorem check_no (w : World) (hs : SaysAt w) {lo : Nat} (hlo : lo ≤ w.heap.size) {a : Option Addr} {l : List Fld} {c : Nat} {na : Option Addr} {nt : List NoteT} {nc : Nat} (h : SchAt w lo a l c na nt nc) (hm : mayP l nt ≠ true) :
    Calls Tryd.prog 7 #[schV a l c na nt nc] w (Rets w fun v _ => ∃ (pa : Option Addr) (n pc : Nat) (e z : Int), v = .agg #[i64 e, .slice pa n pc, i64 z] ∧ e ≠ 0) :=
  (check_walk w hs lo hlo l a c h.hr h.hc h.hc2 nt na nc h.hn h.hnc h.hnc2).mono fun e w' ⟨v, M, he, hw', hM, pa, pc, hv, _⟩ => ⟨v, he, hw'.end hM, pa, _, pc, _, _, hv, fun h0 => hm (by unfold mayP; rw [h0]; rfl)⟩
theorem print_no (w : World) (hs : SaysAt w) {lo : Nat} (hlo : lo ≤ w.heap.size) {a : Option Addr} {l : List Fld} {c : Nat} {na : Option Addr} {nt : List NoteT} {nc : Nat} (h : SchAt w lo a l c na nt nc) (hm : mayP l nt ≠ true) :
    Calls Tryd.prog 8 #[schV a l c na nt nc] w (Rets w (Is (.tuple #[str [], i64 5]))) := by
  have h1 := printG_walk w hs lo hlo a l c na nt nc h (fun hm => print_may hm)
  rw [show printG l nt = ([], 5) from if_neg hm] at h1
  exact h1
structure KrI (w0 : World) (M : Own) (b1 : Nat) (a : Option Addr) (l : List Fld) (c : Nat) (i : Nat) (wb : World) (e : Env) (ds : List Deferred) (L : Own) : Prop where
  hw : wb = w0
  hds : ds = []
  o : L = M
  il : i ≤ l.length
  h1 : e 1 = .pointer (some ⟨b1, 0, none⟩)
  h60 : e 60 = .slice a l.length c
  h61 : e 61 = i64 l.length
  h62 : e 62 = i64 i
theorem kindReturns_walk (w : World) (hs : SaysAt w) (hl : LibAt w) (lo : Nat) (hlo : lo ≤ w.heap.size) (a : Option Addr) (l : List Fld) (c : Nat) (na : Option Addr) (nt : List NoteT) (nc : Nat) (h : SchAt w lo a l c na nt nc) :
    Calls Tryd.prog 4 #[schV a l c na nt nc] w (Rets w (Is (.bool true))) := by
  refine enterT (args := [schV a l c na nt nc]) Tryd.func4 rfl Tryd.ntmps4 (congrArg Array.toList Tryd.results4) (by kernel_rfl) (by simp) (Sy.refl w) ?_
  simp (disch := omega) only [push_cast, Nat.reduceEqDiff, schV]
  refine newI (fun b1 hb1 hn1 => ?_)
  simp (disch := omega) only [push_cast, Nat.reduceEqDiff]
  have hL1 : ∀ p ∈ [(b1, Obj.cells #[.slice a l.length c, .slice na nt.length nc] 26 (0, 0))], w.heap.size ≤ p.1 := fun p hp => by
    rw [List.mem_singleton.1 hp]; exact hb1
  have sch1 : ∀ w' L', Sy w L' w' → (∀ p ∈ L', w.heap.size ≤ p.1) → SchAt w' w'.heap.size a l c na nt nc := fun w' L' hw' hL' =>
    (h.sy hlo hw' (fun p hp => Nat.le_trans hlo (hL' p hp))).up (Nat.le_trans hlo hw'.size)
  refine callV en_5 (callX_is (fun w' hw' => awake_walk w' (hs.mono hw' hL1)) ?_)
  simp (disch := omega) only [push_cast, Nat.reduceEqDiff, Bool.not_true]
  rw [V_cond]
  simp (disch := omega) only [push_cast, Nat.reduceEqDiff]
  by_cases hm : mayP l nt = true
  rotate_left
  · refine loadX_agg Shp.eq mem0 rfl rfl ?_
    simp (disch := omega) only [push_cast, Nat.reduceEqDiff]
    refine callV en_7 (callX_ex (fun w' hw' => check_no w' (hs.mono hw' hL1) (Nat.le_refl _) (sch1 w' _ hw' hL1) hm) (fun v hv => ?_))
    (refine Exists.elim (hv) (fun pa hz => Exists.elim hz (fun pn hz => Exists.elim hz (fun pc hz => Exists.elim hz (fun e0 hz => Exists.elim hz (fun pz hz => ?_))))); have ez := hz.1; subst ez; have hne := hz.2; clear hz)
    simp (disch := omega) only [push_cast, Nat.reduceEqDiff]
    refine loadX_agg Shp.eq mem0 rfl rfl ?_
    simp (disch := omega) only [push_cast, Nat.reduceEqDiff]
    refine callV en_8 (callX_is (fun w' hw' => print_no w' (hs.mono hw' hL1) (Nat.le_refl _) (sch1 w' _ hw' hL1) hm) ?_)
    simp (disch := omega) only [push_cast, Nat.reduceEqDiff, hne, decide_false, Bool.not_false]
    rw [V_cond]
    simp (disch := omega) only [push_cast, Nat.reduceEqDiff, hne, decide_false, Bool.not_false, ne_eq]
    repeat' (first | ((first | refine guardX_t rfl (fun h => ?_) (fun h => ?_) | refine guardX_f rfl (fun h => ?_) (fun h => ?_) | refine condX_d (fun h => ?_) (fun h => ?_) | (refine guardX_bt rfl (fun h => ?_) (fun h => ?_) <;> (try subst h)) | (refine guardX_bf rfl (fun h => ?_) (fun h => ?_) <;> (try subst h)) | (refine condX_b (fun h => ?_) (fun h => ?_) <;> (try subst h)) | refine ldOne Shp.eq (by (first | exact mem0 | exact mem1 | exact mem2 | exact mem3 | exact mem4 | exact mem5)) rfl ?_ | refine loadX_agg Shp.eq (by (first | exact mem0 | exact mem1 | exact mem2 | exact mem3 | exact mem4 | exact mem5)) rfl rfl ?_ | refine newI (fun b hb hn => ?_) | refine storeX 0 rfl Siz.eq rfl rfl (by simp [Value.oneCell']) (by simp) ?_ | refine storeX 1 rfl Siz.eq rfl rfl (by simp [Value.oneCell']) (by simp) ?_ | refine storeX 2 rfl Siz.eq rfl rfl (by simp [Value.oneCell']) (by simp) ?_ | refine storeX 3 rfl Siz.eq rfl rfl (by simp [Value.oneCell']) (by simp) ?_ | refine storeX 4 rfl Siz.eq rfl rfl (by simp [Value.oneCell']) (by simp) ?_ | refine storeX 5 rfl Siz.eq rfl rfl (by simp [Value.oneCell']) (by simp) ?_ | refine storeX 6 rfl Siz.eq rfl rfl (by simp [Value.oneCell']) (by simp) ?_) <;> simp (disch := omega) only [push_cast, Nat.reduceEqDiff, decide_true]) | (first | rw [V_cond] | rw [V_block]) <;> (try simp (disch := omega) only [push_cast, Nat.reduceEqDiff, decide_true]))
    all_goals first | (exfalso; omega) | exact finIs hL1 (by simp)
  refine loadX_agg Shp.eq mem0 rfl rfl ?_
  simp (disch := omega) only [push_cast, Nat.reduceEqDiff]
  refine callV en_7 (callX_ex (fun w' hw' => check_ok w' (hs.mono hw' hL1) (Nat.le_refl _) (sch1 w' _ hw' hL1) hm) (fun v hv => ?_))
  (refine Exists.elim (hv) (fun pa hz => Exists.elim hz (fun pn hz => Exists.elim hz (fun pc hz => Exists.elim hz (fun pz hz => ?_)))); have ez := hz; subst ez; clear hz)
  simp (disch := omega) only [push_cast, Nat.reduceEqDiff, decide_true, Bool.not_true]
  refine loadX_agg Shp.eq mem0 rfl rfl ?_
  simp (disch := omega) only [push_cast, Nat.reduceEqDiff, decide_true, Bool.not_true]
  refine callV en_8 (callX_is (fun w' hw' => print_is w' (hs.mono hw' hL1) (Nat.le_refl _) (sch1 w' _ hw' hL1) hm) ?_)
  simp (disch := omega) only [push_cast, Nat.reduceEqDiff, decide_true, Bool.not_true]
  rw [V_cond]
  simp (disch := omega) only [push_cast, Nat.reduceEqDiff]
  refine callV en_6 (callX_new (fun w' hw' => parse_is w' (hs.mono hw' hL1) (hl.mono hw' hL1) hm) (fun v M2 hM2 hn2 hS2 => ?_))
  (refine Exists.elim (hS2) (fun a' hz => Exists.elim hz (fun c' hz => Exists.elim hz (fun na' hz => Exists.elim hz (fun nc' hz => Exists.elim hz (fun K1' hz => Exists.elim hz (fun K2' hz => Exists.elim hz (fun R' hz => ?_))))))); have ez := hz.1; subst ez; have ez := hz.2.1; subst ez; have hO1' := hz.2.2.1; have hO2' := hz.2.2.2; clear hz)
  simp (disch := omega) only [push_cast, Nat.reduceEqDiff]
  refine newI (fun b6 hb6 hn6 => ?_)
  simp (disch := omega) only [push_cast, Nat.reduceEqDiff]
  refine storeX 0 rfl Siz.eq rfl rfl (by simp [Value.oneCell']) (by simp) ?_
  simp (maxSteps := 1000000) (disch := omega) only [push_cast, Nat.reduceEqDiff, ne_eq, not_true_eq_false, decide_false]
  have hL2 : ∀ p ∈ (b6, Obj.cells #[.slice a' l.length c', .slice na' nt.length nc'] 26 (0, 0)) :: ((K1' ++ (K2' ++ R')) ++ [(b1, Obj.cells #[.slice a l.length c, .slice na nt.length nc] 26 (0, 0))]), w.heap.size ≤ p.1 := fun p hp => by
    rcases List.mem_cons.1 hp with rfl | hp
    · exact hb6
    rcases List.mem_append.1 hp with hp | hp
    · exact hM2 p hp
    · exact hL1 p hp
  have sch2 : ∀ w', Sy w ((b6, Obj.cells #[.slice a' l.length c', .slice na' nt.length nc'] 26 (0, 0)) :: ((K1' ++ (K2' ++ R')) ++ [(b1, Obj.cells #[.slice a l.length c, .slice na nt.length nc] 26 (0, 0))])) w' → SchAt w' w'.heap.size a' l c' na' nt nc' := fun w' hw' =>
    sch_own hO1' hO2' hw' (fun p hp => by simp [hp]) (fun p hp => by simp [hp]) hm
  refine loadX_agg Shp.eq (.tail _ (List.mem_append_right _ mem0)) rfl rfl ?_
  simp (maxSteps := 1000000) (disch := omega) only [push_cast, Nat.reduceEqDiff, ne_eq, not_true_eq_false, decide_false]
  refine loadX_agg Shp.eq mem0 rfl rfl ?_
  simp (maxSteps := 1000000) (disch := omega) only [push_cast, Nat.reduceEqDiff, ne_eq, not_true_eq_false, decide_false]
  refine callV en_9 (callX_is (fun w' hw' => eqSchema_walk w' w'.heap.size w'.heap.size l nt a a' c c' na na' nc nc' (Nat.le_refl _) (Nat.le_refl _) (sch1 w' _ hw' hL2) (sch2 w' hw')) ?_)
  simp (maxSteps := 1000000) (disch := omega) only [push_cast, Nat.reduceEqDiff, ne_eq, not_true_eq_false, decide_false, Bool.not_true]
  refine loadX_agg Shp.eq (.tail _ (List.mem_append_right _ mem0)) rfl rfl ?_
  simp (maxSteps := 1000000) (disch := omega) only [push_cast, Nat.reduceEqDiff, ne_eq, not_true_eq_false, decide_false]
  refine loadX_agg Shp.eq mem0 rfl rfl ?_
  simp (maxSteps := 1000000) (disch := omega) only [push_cast, Nat.reduceEqDiff, ne_eq, not_true_eq_false, decide_false]
  refine callV en_10 (callX_is (v := .bool true) (fun w' hw' => by
    have h1 := alikeSchemas_walk w' (hs.mono hw' hL2) w'.heap.size (Nat.le_refl _) a l c na nt nc (sch1 w' _ hw' hL2) a' l c' na' nt nc' (sch2 w' hw')
    rw [show alikeSP l l nt nt = true by unfold alikeSP; rw [hm, sameL_self]; rfl] at h1
    exact h1) ?_)
  simp (maxSteps := 1000000) (disch := omega) only [push_cast, Nat.reduceEqDiff, ne_eq, not_true_eq_false, decide_false, Bool.not_true]
  rw [V_cond]
  simp (maxSteps := 1000000) (disch := omega) only [push_cast, Nat.reduceEqDiff, ne_eq, not_true_eq_false, decide_false, Bool.not_true]
  refine ldOne Shp.eq (.tail _ (List.mem_append_right _ mem0)) rfl ?_
  simp (maxSteps := 1000000) (disch := omega) only [push_cast, Nat.reduceEqDiff]
  rw [V_block]
  simp (maxSteps := 1000000) (disch := omega) only [push_cast, Nat.reduceEqDiff]
  refine loopW (G := Nat) (KrI w [(b1, Obj.cells #[.slice a l.length c, .slice na nt.length nc] 26 (0, 0))] b1 a l c) (fun i => l.length - i) 0 [(b1, Obj.cells #[.slice a l.length c, .slice na nt.length nc] 26 (0, 0))] (fun w' hw' => hw'.drop (.cons _ (List.sublist_append_right _ _)) (fun p hp => .inr (hL2 p hp))) (by kernel_rfl) ⟨rfl, rfl, rfl, by omega, rfl, rfl, rfl, rfl⟩ ?_
  clear sch2 hL2 hO1' hO2' hM2 hn2 hS2 hn6 hb6
  rintro i wb e ds L ⟨rfl, rfl, rfl, hil, h1, h60, h61, h62⟩
  simp (disch := omega) only [push_cast, Nat.reduceEqDiff, h1, h60, h61, h62]
  rw [V_cond]
  simp (disch := omega) only [push_cast, Nat.reduceEqDiff, h1, h60, h61, h62]
  refine condX_d (fun hlt => ?_) (fun hge => ?_)
  · obtain ⟨f, hf⟩ : ∃ f, l[i]? = some f := ⟨_, List.getElem?_eq_getElem (by omega)⟩
    have hl63 : l.length ≤ 9223372036854775807 := Nat.le_trans h.hc h.hc2
    have hmf := may_one hm (List.mem_of_getElem? hf)
    obtain ⟨b, off, rfl, hb⟩ : ∃ b off, a = some ⟨b, off, none⟩ ∧ b < lo := by
      obtain ⟨f0, l0, rfl⟩ : ∃ f l', l = f :: l' := List.exists_cons_of_ne_nil (by rintro rfl; simp at hf)
      exact h.hr.some_of
    obtain ⟨fa, fc, x1, x2, x3, x4, x5, x6⟩ := h.hr.get i hf
    simp (disch := omega) only [push_cast, Nat.reduceEqDiff, h1, h60, h61, h62]
    rw [V_block]
    simp (disch := omega) only [push_cast, Nat.reduceEqDiff, h1, h60, h61, h62]
    refine ldAggF Shp.eq x2 rfl (out_of (fun p hp => Nat.lt_of_lt_of_le (Nat.lt_of_lt_of_le hb hlo) (hL1 p hp))) ?_
    simp (disch := omega) only [push_cast, Nat.reduceEqDiff, h1, h60, h61, h62, Fld.cells]
    refine newI (fun b10 hb10 hn10 => ?_)
    simp (disch := omega) only [push_cast, Nat.reduceEqDiff, h1, h60, h61, h62]
    refine storeX 0 rfl Siz.eq rfl rfl (by simp [Value.oneCell']) (by simp) ?_
    simp (disch := omega) only [push_cast, Nat.reduceEqDiff, h1, h60, h61, h62]
    have hL3 : ∀ p ∈ [(b10, Obj.cells #[str f.nm, .bool f.nl, i64 f.k, i64 f.wd, i64 f.id, i64 f.ix, .slice fa f.sub.length fc] 41 (0, 0)), (b1, Obj.cells #[.slice (some ⟨b, off, none⟩) l.length c, .slice na nt.length nc] 26 (0, 0))], wb.heap.size ≤ p.1 := fun p hp => by
      rcases List.mem_cons.1 hp with rfl | hp
      · exact hb10
      · exact hL1 p hp
    have rd1 : ∀ w' L', Sy wb L' w' → (∀ p ∈ L', wb.heap.size ≤ p.1) → Rd w' lo fa f.sub := fun w' L' hw' hL' => x6.sy hlo hw' (fun p hp => Nat.le_trans hlo (hL' p hp))
    refine loadX_agg Shp.eq mem0 rfl rfl ?_
    simp (disch := omega) only [push_cast, Nat.reduceEqDiff, h1, h60, h61, h62]
    refine callV en_11 (callX_is (fun w' hw' => printF_is w' (hs.mono hw' hL3) (Nat.le_trans hlo hw'.size) (rd1 w' _ hw' hL3) x3 x5 x4 hmf) ?_)
    simp (disch := omega) only [push_cast, Nat.reduceEqDiff, h1, h60, h61, h62]
    refine callV en_12 (callX_new (fun w' hw' => parseF_is w' (hs.mono hw' hL3) (hl.mono hw' hL3) hmf) (fun v M4 hM4 hn4 hS4 => ?_))
    (refine Exists.elim (hS4) (fun a4 hz => Exists.elim hz (fun c4 hz => Exists.elim hz (fun K4 hz => ?_))); have ez := hz.1; subst ez; have hO4 := hz.2.1; have hK4 := hz.2.2; clear hz)
    simp (disch := omega) only [push_cast, Nat.reduceEqDiff, h1, h60, h61, h62, Fld.cells]
    refine newI (fun b13 hb13 hn13 => ?_)
    simp (disch := omega) only [push_cast, Nat.reduceEqDiff, h1, h60, h61, h62, Fld.cells]
    refine storeX 0 rfl Siz.eq rfl rfl (by simp [Value.oneCell']) (by simp) ?_
    simp (disch := omega) only [push_cast, Nat.reduceEqDiff, h1, h60, h61, h62, ne_eq, not_true_eq_false, decide_false]
    have hL4 : ∀ p ∈ (b13, Obj.cells #[str f.nm, .bool f.nl, i64 f.k, i64 f.wd, i64 f.id, i64 f.ix, .slice a4 f.sub.length c4] 41 (0, 0)) :: (M4 ++ [(b10, Obj.cells #[str f.nm, .bool f.nl, i64 f.k, i64 f.wd, i64 f.id, i64 f.ix, .slice fa f.sub.length fc] 41 (0, 0)), (b1, Obj.cells #[.slice (some ⟨b, off, none⟩) l.length c, .slice na nt.length nc] 26 (0, 0))]), wb.heap.size ≤ p.1 := fun p hp => by
      rcases List.mem_cons.1 hp with rfl | hp
      · exact hb13
      rcases List.mem_append.1 hp with hp | hp
      · exact hM4 p hp
      · exact hL3 p hp
    refine loadX_agg Shp.eq (.tail _ (List.mem_append_right _ mem0)) rfl rfl ?_
    simp (maxSteps := 1000000) (disch := omega) only [push_cast, Nat.reduceEqDiff, h1, h60, h61, h62, ne_eq, not_true_eq_false, decide_false]
    refine loadX_agg Shp.eq mem0 rfl rfl ?_
    simp (maxSteps := 1000000) (disch := omega) only [push_cast, Nat.reduceEqDiff, h1, h60, h61, h62, ne_eq, not_true_eq_false, decide_false]
    refine callV en_13 (callX_is (fun w' hw' => eqField_walk w' lo w'.heap.size f fa a4 fc c4 (Nat.le_trans hlo hw'.size) (Nat.le_refl _) (rd1 w' _ hw' hL4) (hO4.rd hw' (fun p hp => .tail _ (List.mem_append_left _ (hK4 p hp)))) (Nat.le_trans x3 x5)) ?_)
    simp (maxSteps := 1000000) (disch := omega) only [push_cast, Nat.reduceEqDiff, h1, h60, h61, h62, ne_eq, not_true_eq_false, decide_false, Bool.not_true]
    refine loadX_agg Shp.eq (.tail _ (List.mem_append_right _ mem0)) rfl rfl ?_
    simp (maxSteps := 1000000) (disch := omega) only [push_cast, Nat.reduceEqDiff, h1, h60, h61, h62, ne_eq, not_true_eq_false, decide_false]
    refine callV en_14 (callX_ex (fun w' hw' => checkF_ok w' (hs.mono hw' hL4) (Nat.le_trans hlo hw'.size) (rd1 w' _ hw' hL4) x3 x5 x4 hmf) (fun v hv => ?_))
    (refine Exists.elim (hv) (fun pa hz => Exists.elim hz (fun pn hz => Exists.elim hz (fun pc hz => Exists.elim hz (fun pz hz => ?_)))); have ez := hz; subst ez; clear hz)
    simp (maxSteps := 1000000) (disch := omega) only [push_cast, Nat.reduceEqDiff, h1, h60, h61, h62, ne_eq, not_true_eq_false, decide_false]
    rw [V_cond]
    simp (maxSteps := 1000000) (disch := omega) only [push_cast, Nat.reduceEqDiff, h1, h60, h61, h62, ne_eq, not_true_eq_false, decide_false]
    exact ⟨i + 1, _, fun w' hw' => hw'.drop (.cons _ ((List.Sublist.cons _ (List.Sublist.refl _)).trans (List.sublist_append_right _ _))) (fun p hp => .inr (hL4 p hp)), ⟨rfl, rfl, rfl, by omega, h1, h60, h61, by simp only [upd]; rfl⟩, by omega⟩
  · simp (disch := omega) only [push_cast, Nat.reduceEqDiff, h1, h60, h61, h62]
    exact finIs hL1 rfl
end Go.Proofs.YtdmdgkpjjpijdaaDoor
