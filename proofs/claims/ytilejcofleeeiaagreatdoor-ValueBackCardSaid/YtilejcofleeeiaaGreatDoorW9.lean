/- YtilejcofleeeiaaGreatDoor: walks, part 9: how many fields a schema has. -/
import Derived.Test.YtilejcofleeeiaaGreatDoorW7
namespace Go.Proofs.YtilejcofleeeiaaGreatDoor
open Go Go.K
set_option maxRecDepth 100000
set_option linter.unusedVariables false
set_option linter.unusedSimpArgs false
set_option maxHeartbeats 4000000
abbrev schV (a : Option Addr) (l : List Fld) (c : Nat) (na : Option Addr) (nt : List NoteT) (nc : Nat) : Value := .agg #[.slice a l.length c, .slice na nt.length nc]
/-- A schema that lies in memory below lo. -/
structure SchAt (w : World) (lo : Nat) (a : Option Addr) (l : List Fld) (c : Nat) (na : Option Addr) (nt : List NoteT) (nc : Nat) : Prop where
  hr : Rd w lo a l
  hc : l.length ≤ c
  hc2 : c ≤ 9223372036854775807
  hn : RdN w lo na nt
  hnc : nt.length ≤ nc
  hnc2 : nc ≤ 9223372036854775807
theorem RdN.mono {w w' : World} {lo : Nat} {a : Option Addr} {l : List NoteT} (h : RdN w lo a l) (hw : ∀ k, k < lo → w'.heap[k]? = w.heap[k]?) : RdN w' lo a l := by
  rcases h with rfl | ⟨b, off, rfl, hb, h⟩
  · exact .inl rfl
  · exact .inr ⟨b, off, rfl, hb, fun i n hi => let ⟨h1, h2, h3⟩ := h i n hi; ⟨h1, h2, h3.of_block (hw _ hb)⟩⟩
theorem SchAt.sy {w w' : World} {lo : Nat} {a : Option Addr} {l : List Fld} {c : Nat} {na : Option Addr} {nt : List NoteT} {nc : Nat} {M : Own} (h : SchAt w lo a l c na nt nc) (hlo : lo ≤ w.heap.size) (hs : Sy w M w') (hM : ∀ p ∈ M, lo ≤ p.1) : SchAt w' lo a l c na nt nc :=
  ⟨h.hr.sy hlo hs hM, h.hc, h.hc2, h.hn.mono fun k hk => hs.rest k (Nat.lt_of_lt_of_le hk hlo) (fun hm => by obtain ⟨p, hp, e⟩ := List.mem_map.1 hm; have := hM p hp; omega), h.hnc, h.hnc2⟩
def mayP (l : List Fld) (nt : List NoteT) : Bool := (checkP l nt).1 == 0
theorem checkField_walk (w : World) (hs : SaysAt w) (lo : Nat) (hlo : lo ≤ w.heap.size) (f : Fld) (a : Option Addr) (c : Nat) (hf : Rd w lo a f.sub) (hfc : f.sub.length ≤ c) (hc2 : c ≤ 9223372036854775807) (hfn : f.nm.length ≤ 9223372036854775807) :
    Calls Tryz.prog 44 #[.agg #[str f.nm, .bool f.nl, i64 f.k, i64 f.wd, i64 f.id, i64 f.ix, .slice a f.sub.length c]] w (RetsN w (fun v M => ∃ pa pc, v = .agg #[i64 (checkP [f] []).1, .slice pa (checkP [f] []).2.1.tail.length pc, i64 (checkP [f] []).2.2] ∧ (pa = none ∧ pc = 0 ∧ (checkP [f] []).2.1 = [] ∨ ∃ b cap cs, pa = some ⟨b, if cap = 1 then 0 else 1, none⟩ ∧ pc = cap - 1 ∧ (b, .cells cs 3 (0, 0)) ∈ M ∧ RowIn [(b, .cells cs 3 (0, 0))] 3 (.slice (some ⟨b, 0, none⟩) (checkP [f] []).2.1.length cap) (checkP [f] []).2.1.length (ints (checkP [f] []).2.1)))) := by
  refine enterT (args := [.agg #[str f.nm, .bool f.nl, i64 f.k, i64 f.wd, i64 f.id, i64 f.ix, .slice a f.sub.length c]]) Tryz.func44 rfl Tryz.ntmps44 (congrArg Array.toList Tryz.results44) (by kernel_rfl) (by simp) (Sy.refl w) ?_
  simp (disch := omega) only [push_cast, Nat.reduceEqDiff]
  refine newI (fun b1 hb1 hn1 => ?_)
  simp (disch := omega) only [push_cast, Nat.reduceEqDiff]
  refine newI (fun b2 hb2 hn2 => ?_)
  simp (disch := omega) only [push_cast, Nat.reduceEqDiff]
  refine loadX_agg sh_26 (.tail _ (.head _)) rfl rfl ?_
  simp (disch := omega) only [push_cast, Nat.reduceEqDiff]
  refine bs_22_1 (newI fun b3 hb3 hn3 => ?_)
  have hL : ∀ p ∈ [(b3, Obj.cells #[str f.nm, .bool f.nl, i64 f.k, i64 f.wd, i64 f.id, i64 f.ix, .slice a f.sub.length c] 26 (0, 0)), (b2, Obj.cells #[.int .i64 0, .slice none 0 0, .int .i64 0] 85 (0, 0)), (b1, Obj.cells #[str f.nm, .bool f.nl, i64 f.k, i64 f.wd, i64 f.id, i64 f.ix, .slice a f.sub.length c] 26 (0, 0))], w.heap.size ≤ p.1 := by
    intro p hp
    simp only [List.mem_cons, List.mem_nil_iff, or_false] at hp
    rcases hp with rfl | rfl | rfl <;> assumption
  simp (disch := omega) only [push_cast, Nat.reduceEqDiff]
  refine callV en_79 (callX_newR (fun w' hw' => check_walk w' (hs.mono hw' hL) w'.heap.size (Nat.le_refl _) [f] (some ⟨b3, 0, none⟩) 1 (.cons (hw'.lt (.head _)) hfc hfn hc2 (At.of_own hw' (.head _) rfl) ((hf.sy hlo hw' (fun p hp => Nat.le_trans hlo (hL p hp))).weaken (Nat.le_trans hlo hw'.size)) (.nil _)) (by simp) (by omega) [] none 0 (.inl rfl) (by simp) (by omega)) (fun v M hM hMn ⟨pa, pc, hv, hrow, hnil⟩ => ?_))
  subst hv
  simp (disch := omega) only [push_cast, Nat.reduceEqDiff]
  refine newI (fun b4 hb4 hn4 => ?_)
  simp (disch := omega) only [push_cast, Nat.reduceEqDiff]
  repeat' (first | ((first | refine guardX_t rfl (fun h => ?_) (fun h => ?_) | refine guardX_f rfl (fun h => ?_) (fun h => ?_) | refine condX_d (fun h => ?_) (fun h => ?_) | (refine guardX_bt rfl (fun h => ?_) (fun h => ?_) <;> (try subst h)) | (refine guardX_bf rfl (fun h => ?_) (fun h => ?_) <;> (try subst h)) | (refine condX_b (fun h => ?_) (fun h => ?_) <;> (try subst h)) | refine ldOne Shp.eq (by (first | exact mem0 | exact mem1 | exact mem2 | exact mem3 | exact mem4 | exact mem5)) rfl ?_ | refine loadX_agg Shp.eq (by (first | exact mem0 | exact mem1 | exact mem2 | exact mem3 | exact mem4 | exact mem5)) rfl rfl ?_ | refine newI (fun b hb hn => ?_) | refine storeX 0 rfl Siz.eq rfl rfl (by simp [Value.oneCell']) (by simp) ?_ | refine storeX 1 rfl Siz.eq rfl rfl (by simp [Value.oneCell']) (by simp) ?_ | refine storeX 2 rfl Siz.eq rfl rfl (by simp [Value.oneCell']) (by simp) ?_ | refine storeX 3 rfl Siz.eq rfl rfl (by simp [Value.oneCell']) (by simp) ?_ | refine storeX 4 rfl Siz.eq rfl rfl (by simp [Value.oneCell']) (by simp) ?_ | refine storeX 5 rfl Siz.eq rfl rfl (by simp [Value.oneCell']) (by simp) ?_ | refine storeX 6 rfl Siz.eq rfl rfl (by simp [Value.oneCell']) (by simp) ?_) <;> simp (disch := omega) only [push_cast, Nat.reduceEqDiff]))
  generalize checkP [f] [] = r at *
  have hnew : ∀ (x y z u : Obj), ∀ p ∈ [(b4, x), (b3, y), (b2, z), (b1, u)], w.heap.size ≤ p.1 := by
    intro x y z u p hp
    simp only [List.mem_cons, List.mem_nil_iff, or_false] at hp
    rcases hp with rfl | rfl | rfl | rfl <;> assumption
  rw [V_cond]
  simp (disch := omega) only [push_cast, Nat.reduceEqDiff]
  refine condX_d (fun hpos => ?_) (fun hneg => ?_)
  · obtain ⟨_, ⟨he, h0⟩ | ⟨b, cap, cs, he, hm, h1, h2, h3, h4⟩⟩ := hrow
    · omega
    injection he with he1 he2 he3
    subst he1; subst he3
    simp (disch := omega) only [push_cast, Nat.reduceEqDiff]
    repeat' (first | ((first | refine guardX_t rfl (fun h => ?_) (fun h => ?_) | refine guardX_f rfl (fun h => ?_) (fun h => ?_) | refine condX_d (fun h => ?_) (fun h => ?_) | (refine guardX_bt rfl (fun h => ?_) (fun h => ?_) <;> (try subst h)) | (refine guardX_bf rfl (fun h => ?_) (fun h => ?_) <;> (try subst h)) | (refine condX_b (fun h => ?_) (fun h => ?_) <;> (try subst h)) | refine ldOne Shp.eq (by (first | exact mem0 | exact mem1 | exact mem2 | exact mem3 | exact mem4 | exact mem5)) rfl ?_ | refine loadX_agg Shp.eq (by (first | exact mem0 | exact mem1 | exact mem2 | exact mem3 | exact mem4 | exact mem5)) rfl rfl ?_ | refine newI (fun b hb hn => ?_) | refine storeX 0 rfl Siz.eq rfl rfl (by simp [Value.oneCell']) (by simp) ?_ | refine storeX 1 rfl Siz.eq rfl rfl (by simp [Value.oneCell']) (by simp) ?_ | refine storeX 2 rfl Siz.eq rfl rfl (by simp [Value.oneCell']) (by simp) ?_ | refine storeX 3 rfl Siz.eq rfl rfl (by simp [Value.oneCell']) (by simp) ?_ | refine storeX 4 rfl Siz.eq rfl rfl (by simp [Value.oneCell']) (by simp) ?_ | refine storeX 5 rfl Siz.eq rfl rfl (by simp [Value.oneCell']) (by simp) ?_ | refine storeX 6 rfl Siz.eq rfl rfl (by simp [Value.oneCell']) (by simp) ?_) <;> simp (disch := omega) only [push_cast, Nat.reduceEqDiff]))
    refine fun w' hw' => ⟨_, M, rfl, hw'.left (A := [_, _, _, _]) (hnew _ _ _ _), hM, some ⟨b, if pc = 1 then 0 else 1, none⟩, pc - 1, ?_, .inr ⟨b, pc, cs.toArray, rfl, rfl, hm, ?_⟩⟩
    · rw [List.length_tail]
    · exact ⟨by simp [ints], .inr ⟨b, pc, cs, rfl, .head _, h1, h2, h3, h4⟩⟩
  · simp (disch := omega) only [push_cast, Nat.reduceEqDiff]
    repeat' (first | ((first | refine guardX_t rfl (fun h => ?_) (fun h => ?_) | refine guardX_f rfl (fun h => ?_) (fun h => ?_) | refine condX_d (fun h => ?_) (fun h => ?_) | (refine guardX_bt rfl (fun h => ?_) (fun h => ?_) <;> (try subst h)) | (refine guardX_bf rfl (fun h => ?_) (fun h => ?_) <;> (try subst h)) | (refine condX_b (fun h => ?_) (fun h => ?_) <;> (try subst h)) | refine ldOne Shp.eq (by (first | exact mem0 | exact mem1 | exact mem2 | exact mem3 | exact mem4 | exact mem5)) rfl ?_ | refine loadX_agg Shp.eq (by (first | exact mem0 | exact mem1 | exact mem2 | exact mem3 | exact mem4 | exact mem5)) rfl rfl ?_ | refine newI (fun b hb hn => ?_) | refine storeX 0 rfl Siz.eq rfl rfl (by simp [Value.oneCell']) (by simp) ?_ | refine storeX 1 rfl Siz.eq rfl rfl (by simp [Value.oneCell']) (by simp) ?_ | refine storeX 2 rfl Siz.eq rfl rfl (by simp [Value.oneCell']) (by simp) ?_ | refine storeX 3 rfl Siz.eq rfl rfl (by simp [Value.oneCell']) (by simp) ?_ | refine storeX 4 rfl Siz.eq rfl rfl (by simp [Value.oneCell']) (by simp) ?_ | refine storeX 5 rfl Siz.eq rfl rfl (by simp [Value.oneCell']) (by simp) ?_ | refine storeX 6 rfl Siz.eq rfl rfl (by simp [Value.oneCell']) (by simp) ?_) <;> simp (disch := omega) only [push_cast, Nat.reduceEqDiff]))
    have hr0 : r.2.1 = [] := List.eq_nil_of_length_eq_zero (by omega)
    obtain ⟨rfl, rfl⟩ := hnil hr0
    refine fun w' hw' => ⟨_, M, rfl, hw'.left (A := [_, _, _, _]) (hnew _ _ _ _), hM, none, 0, ?_, .inl ⟨rfl, rfl, hr0⟩⟩
    rw [hr0]
    rfl
end Go.Proofs.YtilejcofleeeiaaGreatDoor
namespace Go.Proofs.YtilejcofleeeiaaGreatDoor
open Go Go.K
set_option maxRecDepth 100000
set_option linter.unusedVariables false
set_option linter.unusedSimpArgs false
set_option maxHeartbeats 4000000
theorem nd_le : ∀ (d : Nat) (path : List Nat) (ind : Bool) (l : List Fld), (nd d path ind l).length ≤ (nd (d + 1) path ind l).length
  | 0, _, _, _ => by simp [nd]
  | d + 1, path, ind, l => by
    rw [nd, nd, List.length_flatMap, List.length_flatMap]
    have : ∀ (z : List (Fld × Nat)), (z.map fun p => ((⟨path ++ [p.2], l.take p.2, p.1, ind⟩ : FNode) :: nd d (path ++ [p.2]) (ind || p.1.k == 19) p.1.sub).length).sum ≤ (z.map fun p => ((⟨path ++ [p.2], l.take p.2, p.1, ind⟩ : FNode) :: nd (d + 1) (path ++ [p.2]) (ind || p.1.k == 19) p.1.sub).length).sum := by
      intro z
      induction z with
      | nil => simp
      | cons p z ih =>
        simp only [List.map_cons, List.sum_cons, List.length_cons] at ih ⊢
        have := nd_le d (path ++ [p.2]) (ind || p.1.k == 19) p.1.sub
        omega
    exact this _
theorem firstWrong_zero {ns : List FNode} (h : (faultN ns).1 = 0) : ∀ k, wrongAt ns k = 0 := by
  intro k
  rcases Nat.lt_or_ge k ns.length with hk | hk
  · cases hf : firstWrong ns with
    | none =>
      unfold firstWrong at hf
      rw [List.find?_eq_none] at hf
      simpa using hf k (List.mem_range.2 hk)
    | some j =>
      unfold firstWrong at hf
      have h2 := List.find?_some hf
      unfold faultN firstWrong at h
      rw [hf] at h
      simp only at h
      simp [h] at h2
  · unfold wrongAt; rw [List.getElem?_eq_none hk]
theorem checkP_zero {l : List Fld} {nt : List NoteT} (h : mayP l nt = true) : l.length ≤ 32 ∧ nt.length ≤ 16 ∧ nt.findIdx? longNote = none ∧ ∀ k, wrongAt (nd 65 [] false l) k = 0 := by
  unfold mayP at h
  have h0 : (checkP l nt).1 = 0 := by simpa using h
  unfold checkP at h0
  split at h0
  · cases h0
  · split at h0
    · cases h0
    · split at h0
      · cases h0
      · exact ⟨by omega, by omega, by assumption, firstWrong_zero h0⟩
theorem wrongN_many {pl : Nat} {ah : List Fld} {f : Fld} {ind : Bool} {k : Int} {S : List Int} (h : wrongN pl ah f ind k S = 0) : pl ≤ 64 ∧ k < 256 := by
  unfold wrongN at h
  split at h
  · cases h
  · split at h
    · cases h
    · omega
theorem few_nodes {l : List Fld} {nt : List NoteT} (h : mayP l nt = true) : (nd 65 [] false l).length ≤ 256 := by
  rcases Nat.lt_or_ge 256 (nd 65 [] false l).length with hlt | hge
  · have h1 := (checkP_zero h).2.2.2 256
    unfold wrongAt at h1
    rw [List.getElem?_eq_getElem hlt] at h1
    have := (wrongN_many h1).2
    omega
  · exact hge
def countP (l : List Fld) (nt : List NoteT) : Nat := if mayP l nt then (nd 64 [] false l).length else 0
end Go.Proofs.YtilejcofleeeiaaGreatDoor
