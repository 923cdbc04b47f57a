/- YthdejilihaombaaDoor: walks, part 27: every Check and CheckField answers as the document does. -/
import Derived.Test.YthdejilihaombaaDoorW14
import Derived.Test.YthdejilihaombaaDoorW23
import Derived.Test.YthdejilihaombaaDoorW26
namespace Go.Proofs.YthdejilihaombaaDoor
open Go Go.K
set_option maxRecDepth 100000
set_option linter.unusedVariables false
set_option linter.unusedSimpArgs false
set_option maxHeartbeats 4000000
def toInts (l : List Nat) : List Int := l.map fun (n : Nat) => (n : Int)
theorem toInts_length (l : List Nat) : (toInts l).length = l.length := by simp [toInts]
theorem eqFault_same (w : World) (x z : Int) (l : List Nat) (a a' : Option Addr) (c c' : Nat) (hl : IntsAt w a (toInts l)) (hm : IntsAt w a' (toInts l)) (hlc : l.length ≤ 9223372036854775807) :
    Calls Tryd.prog 22 #[.agg #[i64 x, .slice a l.length c, i64 z], .agg #[i64 x, .slice a' l.length c', i64 z]] w (Rets w (Is (.bool true))) := by
  have h := eqFault_walk w x z x z (toInts l) (toInts l) a a' c c' hl hm (by rw [toInts_length]; exact hlc)
  rw [toInts_length] at h
  simpa using h
theorem intsAt_row {w wb : World} {L M : Own} {pa : Option Addr} {pc : Nat} {l : List Nat} (hw : Sy wb L w) (hM : ∀ p ∈ M, p ∈ L) (h : RowIn M 3 (.slice pa l.length pc) l.length (ints l)) : IntsAt w pa (toInts l) := by
  obtain ⟨_, ⟨h1, h2⟩ | ⟨b, cap, cs, h1, h2, h3, h4, h5, h6⟩⟩ := h
  · exact .inl (List.eq_nil_of_length_eq_zero (by rw [toInts_length]; exact h2))
  · injection h1 with he1 he2 he3
    subst he1; subst he3
    refine .inr ⟨b, 0, rfl, fun i n hi => At.of_own hw (hM _ h2) ?_⟩
    have h7 : (ints l)[i]? = some (i64 n) := by
      simp only [toInts, List.getElem?_map] at hi
      simp only [ints, List.getElem?_map]
      cases hx : l[i]? with
      | none => rw [hx] at hi; cases hi
      | some k => rw [hx] at hi; cases hi; rfl
    rw [← h6, List.getElem?_take] at h7
    split at h7
    · rename_i hlt
      simp only [List.length_singleton]
      rw [Nat.zero_add, List.take_one, List.head?_drop, h7]
      rfl
    · cases h7
theorem intsAt_tail {w wb : World} {L M : Own} {pa : Option Addr} {pc : Nat} {l : List Nat} (hw : Sy wb L w) (hM : ∀ p ∈ M, p ∈ L)
    (h : pa = none ∧ pc = 0 ∧ l = [] ∨ ∃ b cap cs, pa = some ⟨b, if cap = 1 then 0 else 1, none⟩ ∧ pc = cap - 1 ∧ (b, .cells cs 3 (0, 0)) ∈ M ∧ RowIn [(b, .cells cs 3 (0, 0))] 3 (.slice (some ⟨b, 0, none⟩) l.length cap) l.length (ints l)) : IntsAt w pa (toInts l.tail) := by
  rcases h with ⟨_, _, rfl⟩ | ⟨b, cap, cs, rfl, _, hm, hrow⟩
  · exact .inl rfl
  · rcases Nat.lt_or_ge 1 l.length with h1 | h1
    · have hcap : ¬ cap = 1 := by
        obtain ⟨_, ⟨h2, _⟩ | ⟨b', cap', cs', h2, _, h3, _⟩⟩ := hrow
        · cases h2
        · injection h2 with _ _ e; omega
      rw [if_neg hcap]
      rcases intsAt_row (M := [(b, .cells cs 3 (0, 0))]) hw (fun p hp => by rw [List.mem_singleton.1 hp]; exact hM _ hm) hrow with h | ⟨b', off, he, h⟩
      · have := congrArg List.length h
        rw [toInts_length] at this
        simp only [List.length_nil] at this
        omega
      · cases he
        refine .inr ⟨b, 1, rfl, fun i n hi => ?_⟩
        have h4 := h (i + 1) n (by
          simp only [toInts, List.getElem?_map, List.getElem?_tail] at hi ⊢
          exact hi)
        rw [show 1 + i = 0 + (i + 1) by omega]
        exact h4
    · refine .inl (List.eq_nil_of_length_eq_zero ?_)
      rw [toInts_length, List.length_tail]; omega
abbrev SchT := List Fld × List NoteT
/-- A list of schemas in memory, below lo. -/
def SchsAt (w : World) (lo : Nat) (a : Option Addr) (ls : List SchT) : Prop := ls = [] ∨ ∃ b off, a = some ⟨b, off, none⟩ ∧ b < lo ∧ ∀ i x, ls[i]? = some x → ∃ fa fc na nc, At w b (off + i * 2) [.slice fa x.1.length fc, .slice na x.2.length nc] ∧ SchAt w lo fa x.1 fc na x.2 nc
structure KcI (w0 : World) (ls : List SchT) (a : Option Addr) (c : Nat) (i : Nat) (wb : World) (e : Env) (ds : List Deferred) (L : Own) : Prop where
  hw : wb = w0
  hds : ds = []
  o : L = []
  il : i ≤ ls.length
  h9 : e 9 = .slice a ls.length c
  h10 : e 10 = i64 ls.length
  h11 : e 11 = i64 i
structure KdI (w0 : World) (ls : List SchT) (a : Option Addr) (c : Nat) (i : Nat) (M : Own) (fa : Option Addr) (l : List Fld) (fc : Nat) (j : Nat) (wb : World) (e : Env) (ds : List Deferred) (L : Own) : Prop where
  hw : wb = w0
  hds : ds = []
  o : L = M
  jl : j ≤ l.length
  h9 : e 9 = .slice a ls.length c
  h10 : e 10 = i64 ls.length
  h11 : e 11 = i64 i
  h22 : e 22 = .slice fa l.length fc
  h23 : e 23 = i64 l.length
  h24 : e 24 = i64 j
theorem kindChecks_walk (w : World) (hs : SaysAt w) (ls : List SchT) (a : Option Addr) (c : Nat) (lo : Nat) (hlo : lo ≤ w.heap.size) (h : SchsAt w lo a ls) (hlc : ls.length ≤ 9223372036854775807) :
    Calls Tryd.prog 6 #[.slice a ls.length c] w (Rets w (Is (.bool true))) := by
  refine enterT (args := [.slice a ls.length c]) Tryd.func6 rfl Tryd.ntmps6 (congrArg Array.toList Tryd.results6) (by kernel_rfl) (by simp) (Sy.refl w) ?_
  simp (disch := omega) only [push_cast, Nat.reduceEqDiff]
  refine callV en_21 (callX_is (fun w' hw' => awake_walk w' (hs.mono hw' (by simp))) ?_)
  simp (disch := omega) only [push_cast, Nat.reduceEqDiff]
  rw [V_cond]
  simp (disch := omega) only [push_cast, Nat.reduceEqDiff]
  refine condX_b (fun hm => by cases hm) (fun _ => ?_)
  simp (disch := omega) only [push_cast, Nat.reduceEqDiff]
  repeat' (first | ((first | refine guardX_t rfl (fun h => ?_) (fun h => ?_) | refine guardX_f rfl (fun h => ?_) (fun h => ?_) | refine condX_d (fun h => ?_) (fun h => ?_) | (refine guardX_bt rfl (fun h => ?_) (fun h => ?_) <;> (try subst h)) | (refine guardX_bf rfl (fun h => ?_) (fun h => ?_) <;> (try subst h)) | (refine condX_b (fun h => ?_) (fun h => ?_) <;> (try subst h)) | refine ldOne Shp.eq (by (first | exact mem0 | exact mem1 | exact mem2 | exact mem3 | exact mem4 | exact mem5)) rfl ?_ | refine loadX_agg Shp.eq (by (first | exact mem0 | exact mem1 | exact mem2 | exact mem3 | exact mem4 | exact mem5)) rfl rfl ?_ | refine newI (fun b hb hn => ?_) | refine storeX 0 rfl Siz.eq rfl rfl (by simp [Value.oneCell']) (by simp) ?_ | refine storeX 1 rfl Siz.eq rfl rfl (by simp [Value.oneCell']) (by simp) ?_ | refine storeX 2 rfl Siz.eq rfl rfl (by simp [Value.oneCell']) (by simp) ?_ | refine storeX 3 rfl Siz.eq rfl rfl (by simp [Value.oneCell']) (by simp) ?_ | refine storeX 4 rfl Siz.eq rfl rfl (by simp [Value.oneCell']) (by simp) ?_ | refine storeX 5 rfl Siz.eq rfl rfl (by simp [Value.oneCell']) (by simp) ?_ | refine storeX 6 rfl Siz.eq rfl rfl (by simp [Value.oneCell']) (by simp) ?_) <;> simp (disch := omega) only [push_cast, Nat.reduceEqDiff]))
  rw [V_block]
  simp (disch := omega) only [push_cast, Nat.reduceEqDiff]
  refine loopW (G := Nat) (KcI w ls a c) (fun i => ls.length - i) 0 [] (fun w hw => hw) (by kernel_rfl) ⟨rfl, rfl, rfl, by omega, rfl, rfl, rfl⟩ ?_
  rintro i wb e ds L ⟨rfl, rfl, rfl, hil, h9, h10, h11⟩
  simp (disch := omega) only [push_cast, Nat.reduceEqDiff, h9, h10, h11]
  rw [V_cond]
  simp (disch := omega) only [push_cast, Nat.reduceEqDiff, h9, h10, h11]
  refine condX_d (fun hlt => ?_) (fun hge => ?_)
  · obtain ⟨x, hx⟩ : ∃ x, ls[i]? = some x := ⟨_, List.getElem?_eq_getElem (by omega)⟩
    rcases h with rfl | ⟨b, off, rfl, hb, h⟩
    · simp at hx
    obtain ⟨fa, fc, na, nc, hat, hsch⟩ := h i x hx
    obtain ⟨l, nt⟩ := x
    simp (disch := omega) only [push_cast, Nat.reduceEqDiff, h9, h10, h11]
    rw [V_block]
    simp (disch := omega) only [push_cast, Nat.reduceEqDiff, h9, h10, h11]
    refine ldAggF sh_46 hat rfl (by simp) ?_
    simp (disch := omega) only [push_cast, Nat.reduceEqDiff, h9, h10, h11]
    refine newI (fun b4 hb4 hn4 => ?_)
    simp (disch := omega) only [push_cast, Nat.reduceEqDiff, h9, h10, h11]
    have hL4 : ∀ p ∈ [(b4, Obj.cells #[.slice fa l.length fc, .slice na nt.length nc] 46 (0, 0))], wb.heap.size ≤ p.1 := by
      intro p hp; rw [List.mem_singleton.1 hp]; exact hb4
    have hl63 : l.length ≤ 9223372036854775807 := Nat.le_trans hsch.hc hsch.hc2
    have keep : ∀ w' L', Sy wb L' w' → (∀ p ∈ L', wb.heap.size ≤ p.1) → SaysAt w' ∧ SchAt w' lo fa l fc na nt nc ∧ lo ≤ w'.heap.size := fun w' L' hw' hL' =>
      ⟨hs.mono hw' hL', hsch.sy hlo hw' (fun p hp => Nat.le_trans hlo (hL' p hp)), Nat.le_trans hlo hw'.size⟩
    repeat' (first | ((first | refine guardX_t rfl (fun h => ?_) (fun h => ?_) | refine guardX_f rfl (fun h => ?_) (fun h => ?_) | refine condX_d (fun h => ?_) (fun h => ?_) | (refine guardX_bt rfl (fun h => ?_) (fun h => ?_) <;> (try subst h)) | (refine guardX_bf rfl (fun h => ?_) (fun h => ?_) <;> (try subst h)) | (refine condX_b (fun h => ?_) (fun h => ?_) <;> (try subst h)) | refine ldOne Shp.eq (by (first | exact mem0 | exact mem1 | exact mem2 | exact mem3 | exact mem4 | exact mem5)) rfl ?_ | refine loadX_agg Shp.eq (by (first | exact mem0 | exact mem1 | exact mem2 | exact mem3 | exact mem4 | exact mem5)) rfl rfl ?_ | refine newI (fun b hb hn => ?_) | refine storeX 0 rfl Siz.eq rfl rfl (by simp [Value.oneCell']) (by simp) ?_ | refine storeX 1 rfl Siz.eq rfl rfl (by simp [Value.oneCell']) (by simp) ?_ | refine storeX 2 rfl Siz.eq rfl rfl (by simp [Value.oneCell']) (by simp) ?_ | refine storeX 3 rfl Siz.eq rfl rfl (by simp [Value.oneCell']) (by simp) ?_ | refine storeX 4 rfl Siz.eq rfl rfl (by simp [Value.oneCell']) (by simp) ?_ | refine storeX 5 rfl Siz.eq rfl rfl (by simp [Value.oneCell']) (by simp) ?_ | refine storeX 6 rfl Siz.eq rfl rfl (by simp [Value.oneCell']) (by simp) ?_) <;> simp (disch := omega) only [push_cast, Nat.reduceEqDiff, h9, h10, h11]))
    refine freeT [0, 2] [1, 3, 4, 5] [(b4, Obj.cells #[.slice fa l.length fc, .slice na nt.length nc] 46 (0, 0))] (by kernel_rfl) mixed (by kernel_rfl) (Stab.of (List.Sublist.refl _) hL4) ?_
    simp (disch := omega) only [push_cast, Nat.reduceEqDiff, h9, h10, h11]
    refine loadX_agg sh_46 (.head _) rfl rfl ?_
    simp (disch := omega) only [push_cast, Nat.reduceEqDiff, h9, h10, h11]
    refine loadX_agg sh_46 (.head _) rfl rfl ?_
    simp (disch := omega) only [push_cast, Nat.reduceEqDiff, h9, h10, h11]
    refine callV en_23 (callX_new (fun w' hw' => (by
      obtain ⟨k1, k2, k3⟩ := keep w' _ hw' hL4
      exact check_walk w' k1 lo k3 l fa fc k2.hr k2.hc k2.hc2 nt na nc k2.hn k2.hnc k2.hnc2)) (fun v M hM hMn hS => ?_))
    obtain ⟨pa, pc, rfl, hrow, -⟩ := hS
    simp (disch := omega) only [push_cast, Nat.reduceEqDiff, h9, h10, h11]
    have hLM : ∀ p ∈ M ++ [(b4, Obj.cells #[.slice fa l.length fc, .slice na nt.length nc] 46 (0, 0))], wb.heap.size ≤ p.1 := fun p hp => by
      rcases List.mem_append.1 hp with hp | hp
      · exact hM p hp
      · exact hL4 p hp
    refine ⟨Stab.of (List.sublist_append_right _ _) hLM, ?_⟩
    refine callV en_24 (callX_new (fun w' hw' => (by
      obtain ⟨k1, k2, k3⟩ := keep w' _ hw' hLM
      exact checkR_walk w' lo k3 l fa fc k2.hr k2.hc k2.hc2 nt na nc k2.hn k2.hnc k2.hnc2)) (fun v2 M2 hM2 hMn2 hS2 => ?_))
    obtain ⟨pa2, pc2, rfl, hrow2, -⟩ := hS2
    simp (disch := omega) only [push_cast, Nat.reduceEqDiff, h9, h10, h11]
    have hLM2 : ∀ p ∈ M2 ++ (M ++ [(b4, Obj.cells #[.slice fa l.length fc, .slice na nt.length nc] 46 (0, 0))]), wb.heap.size ≤ p.1 := fun p hp => by
      rcases List.mem_append.1 hp with hp | hp
      · exact hM2 p hp
      · exact hLM p hp
    have st2 : Stab wb (M2 ++ (M ++ [(b4, Obj.cells #[.slice fa l.length fc, .slice na nt.length nc] 46 (0, 0))])) [(b4, Obj.cells #[.slice fa l.length fc, .slice na nt.length nc] 46 (0, 0))] := Stab.of (((List.Sublist.refl _).trans (List.sublist_append_right M _)).trans (List.sublist_append_right M2 _)) hLM2
    refine ⟨st2, ?_⟩
    generalize checkP l nt = r at *
    have hrl : r.2.1.length ≤ 9223372036854775807 := by
      obtain ⟨_, ⟨_, h2⟩ | ⟨_, cap, _, _, _, h3, h4, _⟩⟩ := hrow
      · omega
      · simp only [maxLen] at h4; omega
    refine callV en_22 (callX_is (fun w' hw' => eqFault_same w' r.1 r.2.2 r.2.1 pa pa2 pc pc2 (intsAt_row hw' (fun p hp => List.mem_append_right _ (List.mem_append_left _ hp)) hrow) (intsAt_row hw' (fun p hp => List.mem_append_left _ hp) hrow2) hrl) ?_)
    simp (disch := omega) only [push_cast, Nat.reduceEqDiff, h9, h10, h11]
    refine ⟨st2, st2, ?_⟩
    rw [V_cond]
    simp (disch := omega) only [push_cast, Nat.reduceEqDiff, h9, h10, h11]
    refine condX_b (fun hm => by cases hm) (fun _ => ?_)
    simp (disch := omega) only [push_cast, Nat.reduceEqDiff, h9, h10, h11]
    repeat' (first | ((first | refine guardX_t rfl (fun h => ?_) (fun h => ?_) | refine guardX_f rfl (fun h => ?_) (fun h => ?_) | refine condX_d (fun h => ?_) (fun h => ?_) | (refine guardX_bt rfl (fun h => ?_) (fun h => ?_) <;> (try subst h)) | (refine guardX_bf rfl (fun h => ?_) (fun h => ?_) <;> (try subst h)) | (refine condX_b (fun h => ?_) (fun h => ?_) <;> (try subst h)) | refine ldOne Shp.eq (by (first | exact mem0 | exact mem1 | exact mem2 | exact mem3 | exact mem4 | exact mem5)) rfl ?_ | refine loadX_agg Shp.eq (by (first | exact mem0 | exact mem1 | exact mem2 | exact mem3 | exact mem4 | exact mem5)) rfl rfl ?_ | refine newI (fun b hb hn => ?_) | refine storeX 0 rfl Siz.eq rfl rfl (by simp [Value.oneCell']) (by simp) ?_ | refine storeX 1 rfl Siz.eq rfl rfl (by simp [Value.oneCell']) (by simp) ?_ | refine storeX 2 rfl Siz.eq rfl rfl (by simp [Value.oneCell']) (by simp) ?_ | refine storeX 3 rfl Siz.eq rfl rfl (by simp [Value.oneCell']) (by simp) ?_ | refine storeX 4 rfl Siz.eq rfl rfl (by simp [Value.oneCell']) (by simp) ?_ | refine storeX 5 rfl Siz.eq rfl rfl (by simp [Value.oneCell']) (by simp) ?_ | refine storeX 6 rfl Siz.eq rfl rfl (by simp [Value.oneCell']) (by simp) ?_) <;> simp (disch := omega) only [push_cast, Nat.reduceEqDiff, h9, h10, h11]))
    refine ldOne sh_22 (List.mem_append_right _ (List.mem_append_right _ (.head _))) rfl ?_
    simp (disch := omega) only [push_cast, Nat.reduceEqDiff, h9, h10, h11]
    repeat' (first | ((first | refine guardX_t rfl (fun h => ?_) (fun h => ?_) | refine guardX_f rfl (fun h => ?_) (fun h => ?_) | refine condX_d (fun h => ?_) (fun h => ?_) | (refine guardX_bt rfl (fun h => ?_) (fun h => ?_) <;> (try subst h)) | (refine guardX_bf rfl (fun h => ?_) (fun h => ?_) <;> (try subst h)) | (refine condX_b (fun h => ?_) (fun h => ?_) <;> (try subst h)) | refine ldOne Shp.eq (by (first | exact mem0 | exact mem1 | exact mem2 | exact mem3 | exact mem4 | exact mem5)) rfl ?_ | refine loadX_agg Shp.eq (by (first | exact mem0 | exact mem1 | exact mem2 | exact mem3 | exact mem4 | exact mem5)) rfl rfl ?_ | refine newI (fun b hb hn => ?_) | refine storeX 0 rfl Siz.eq rfl rfl (by simp [Value.oneCell']) (by simp) ?_ | refine storeX 1 rfl Siz.eq rfl rfl (by simp [Value.oneCell']) (by simp) ?_ | refine storeX 2 rfl Siz.eq rfl rfl (by simp [Value.oneCell']) (by simp) ?_ | refine storeX 3 rfl Siz.eq rfl rfl (by simp [Value.oneCell']) (by simp) ?_ | refine storeX 4 rfl Siz.eq rfl rfl (by simp [Value.oneCell']) (by simp) ?_ | refine storeX 5 rfl Siz.eq rfl rfl (by simp [Value.oneCell']) (by simp) ?_ | refine storeX 6 rfl Siz.eq rfl rfl (by simp [Value.oneCell']) (by simp) ?_) <;> simp (disch := omega) only [push_cast, Nat.reduceEqDiff, h9, h10, h11]))
    rw [V_block]
    simp (disch := omega) only [push_cast, Nat.reduceEqDiff, h9, h10, h11]
    refine loopW (G := Nat) (KdI wb ls (some ⟨b, off, none⟩) c i [(b4, Obj.cells #[.slice fa l.length fc, .slice na nt.length nc] 46 (0, 0))] fa l fc) (fun j => l.length - j) 0 [(b4, Obj.cells #[.slice fa l.length fc, .slice na nt.length nc] 46 (0, 0))] (fun w hw => st2 w hw) (by kernel_rfl) ⟨rfl, rfl, rfl, by omega, h9, h10, h11, rfl, rfl, rfl⟩ ?_
    clear h9 h10 h11
    rintro j w1 e ds L ⟨rfl, rfl, rfl, hjl, h9, h10, h11, h22, h23, h24⟩
    simp (disch := omega) only [push_cast, Nat.reduceEqDiff, h9, h10, h11, h22, h23, h24]
    rw [V_cond]
    simp (disch := omega) only [push_cast, Nat.reduceEqDiff, h9, h10, h11, h22, h23, h24]
    refine condX_d (fun hlt2 => ?_) (fun hge2 => ?_)
    · obtain ⟨f, hf⟩ : ∃ f, l[j]? = some f := ⟨_, List.getElem?_eq_getElem (by omega)⟩
      obtain ⟨b', off', rfl, hb'⟩ : ∃ b off, fa = some ⟨b, off, none⟩ ∧ b < lo := by
        obtain ⟨f0, l0, rfl⟩ : ∃ f l', l = f :: l' := List.exists_cons_of_ne_nil (by rintro rfl; simp at hf)
        exact hsch.hr.some_of
      obtain ⟨ga, gc, x1, x2, x3, x4, x5, x6⟩ := hsch.hr.get j hf
      simp (disch := omega) only [push_cast, Nat.reduceEqDiff, h9, h10, h11, h22, h23, h24]
      rw [V_block]
      simp (disch := omega) only [push_cast, Nat.reduceEqDiff, h9, h10, h11, h22, h23, h24]
      refine ldAggF sh_26 x2 rfl (out_of (fun p hp => Nat.lt_of_lt_of_le (Nat.lt_of_lt_of_le x1 hlo) (hL4 p hp))) ?_
      simp (disch := omega) only [push_cast, Nat.reduceEqDiff, h9, h10, h11, h22, h23, h24, Fld.cells]
      refine newI (fun b6 hb6 hn6 => ?_)
      simp (disch := omega) only [push_cast, Nat.reduceEqDiff, h9, h10, h11, h22, h23, h24]
      repeat' (first | ((first | refine guardX_t rfl (fun h => ?_) (fun h => ?_) | refine guardX_f rfl (fun h => ?_) (fun h => ?_) | refine condX_d (fun h => ?_) (fun h => ?_) | (refine guardX_bt rfl (fun h => ?_) (fun h => ?_) <;> (try subst h)) | (refine guardX_bf rfl (fun h => ?_) (fun h => ?_) <;> (try subst h)) | (refine condX_b (fun h => ?_) (fun h => ?_) <;> (try subst h)) | refine ldOne Shp.eq (by (first | exact mem0 | exact mem1 | exact mem2 | exact mem3 | exact mem4 | exact mem5)) rfl ?_ | refine loadX_agg Shp.eq (by (first | exact mem0 | exact mem1 | exact mem2 | exact mem3 | exact mem4 | exact mem5)) rfl rfl ?_ | refine newI (fun b hb hn => ?_) | refine storeX 0 rfl Siz.eq rfl rfl (by simp [Value.oneCell']) (by simp) ?_ | refine storeX 1 rfl Siz.eq rfl rfl (by simp [Value.oneCell']) (by simp) ?_ | refine storeX 2 rfl Siz.eq rfl rfl (by simp [Value.oneCell']) (by simp) ?_ | refine storeX 3 rfl Siz.eq rfl rfl (by simp [Value.oneCell']) (by simp) ?_ | refine storeX 4 rfl Siz.eq rfl rfl (by simp [Value.oneCell']) (by simp) ?_ | refine storeX 5 rfl Siz.eq rfl rfl (by simp [Value.oneCell']) (by simp) ?_ | refine storeX 6 rfl Siz.eq rfl rfl (by simp [Value.oneCell']) (by simp) ?_) <;> simp (disch := omega) only [push_cast, Nat.reduceEqDiff, h9, h10, h11, h22, h23, h24]))
      have hL6 : ∀ p ∈ [(b6, Obj.cells #[str f.nm, .bool f.nl, i64 f.k, i64 f.wd, i64 f.id, i64 f.ix, .slice ga f.sub.length gc] 26 (0, 0)), (b4, Obj.cells #[.slice (some ⟨b', off', none⟩) l.length fc, .slice na nt.length nc] 46 (0, 0))], w1.heap.size ≤ p.1 := by
        intro p hp
        simp only [List.mem_cons, List.mem_nil_iff, or_false] at hp
        rcases hp with rfl | rfl <;> assumption
      have keep2 : ∀ w' L', Sy w1 L' w' → (∀ p ∈ L', w1.heap.size ≤ p.1) → SaysAt w' ∧ Rd w' lo ga f.sub ∧ lo ≤ w'.heap.size := fun w' L' hw' hL' =>
        ⟨hs.mono hw' hL', x6.sy hlo hw' (fun p hp => Nat.le_trans hlo (hL' p hp)), Nat.le_trans hlo hw'.size⟩
      refine freeT [0, 2] [1, 3, 4, 5] [(b6, Obj.cells #[str f.nm, .bool f.nl, i64 f.k, i64 f.wd, i64 f.id, i64 f.ix, .slice ga f.sub.length gc] 26 (0, 0))] (by kernel_rfl) mixed (by kernel_rfl) (Stab.of (.cons_cons _ (List.nil_sublist _)) hL6) ?_
      simp (disch := omega) only [push_cast, Nat.reduceEqDiff, h9, h10, h11, h22, h23, h24]
      refine loadX_agg sh_26 (.head _) rfl rfl ?_
      simp (disch := omega) only [push_cast, Nat.reduceEqDiff, h9, h10, h11, h22, h23, h24]
      refine loadX_agg sh_26 (.head _) rfl rfl ?_
      simp (disch := omega) only [push_cast, Nat.reduceEqDiff, h9, h10, h11, h22, h23, h24]
      refine callV en_25 (callX_new (fun w' hw' => (by
        obtain ⟨k1, k2, k3⟩ := keep2 w' _ hw' hL6
        exact checkField_walk w' k1 lo k3 f ga gc k2 x3 x5 x4)) (fun v3 M3 hM3 hMn3 hS3 => ?_))
      obtain ⟨pa3, pc3, rfl, hrow3⟩ := hS3
      simp (disch := omega) only [push_cast, Nat.reduceEqDiff, h9, h10, h11, h22, h23, h24]
      have hLM3 : ∀ p ∈ M3 ++ [(b6, Obj.cells #[str f.nm, .bool f.nl, i64 f.k, i64 f.wd, i64 f.id, i64 f.ix, .slice ga f.sub.length gc] 26 (0, 0)), (b4, Obj.cells #[.slice (some ⟨b', off', none⟩) l.length fc, .slice na nt.length nc] 46 (0, 0))], w1.heap.size ≤ p.1 := fun p hp => by
        rcases List.mem_append.1 hp with hp | hp
        · exact hM3 p hp
        · exact hL6 p hp
      refine ⟨Stab.of ((List.Sublist.cons_cons _ (List.nil_sublist _)).trans (List.sublist_append_right _ _)) hLM3, ?_⟩
      refine callV en_26 (callX_new (fun w' hw' => (by
        obtain ⟨k1, k2, k3⟩ := keep2 w' _ hw' hLM3
        exact checkFieldR_walk w' lo k3 f ga gc k2 x3 x5 x4)) (fun v4 M4 hM4 hMn4 hS4 => ?_))
      obtain ⟨pa4, pc4, rfl, hrow4⟩ := hS4
      simp (disch := omega) only [push_cast, Nat.reduceEqDiff, h9, h10, h11, h22, h23, h24]
      have hLM4 : ∀ p ∈ M4 ++ (M3 ++ [(b6, Obj.cells #[str f.nm, .bool f.nl, i64 f.k, i64 f.wd, i64 f.id, i64 f.ix, .slice ga f.sub.length gc] 26 (0, 0)), (b4, Obj.cells #[.slice (some ⟨b', off', none⟩) l.length fc, .slice na nt.length nc] 46 (0, 0))]), w1.heap.size ≤ p.1 := fun p hp => by
        rcases List.mem_append.1 hp with hp | hp
        · exact hM4 p hp
        · exact hLM3 p hp
      have st4 : Stab w1 (M4 ++ (M3 ++ [(b6, Obj.cells #[str f.nm, .bool f.nl, i64 f.k, i64 f.wd, i64 f.id, i64 f.ix, .slice ga f.sub.length gc] 26 (0, 0)), (b4, Obj.cells #[.slice (some ⟨b', off', none⟩) l.length fc, .slice na nt.length nc] 46 (0, 0))])) [(b6, Obj.cells #[str f.nm, .bool f.nl, i64 f.k, i64 f.wd, i64 f.id, i64 f.ix, .slice ga f.sub.length gc] 26 (0, 0))] := Stab.of (((List.Sublist.cons_cons _ (List.nil_sublist _)).trans (List.sublist_append_right M3 _)).trans (List.sublist_append_right M4 _)) hLM4
      refine ⟨st4, ?_⟩
      generalize checkP [f] [] = r at *
      have hrl : r.2.1.tail.length ≤ 9223372036854775807 := by
        rcases hrow3 with ⟨_, _, h1⟩ | ⟨_, cap, _, _, _, _, hrow⟩
        · rw [h1]; simp
        · obtain ⟨_, ⟨_, h2⟩ | ⟨_, cap, _, h1, _, h3, h4, _⟩⟩ := hrow
          · rw [List.length_tail]; omega
          · simp only [maxLen] at h4; rw [List.length_tail]; omega
      refine callV en_22 (callX_is (fun w' hw' => eqFault_same w' r.1 r.2.2 r.2.1.tail pa3 pa4 pc3 pc4 (intsAt_tail hw' (fun p hp => List.mem_append_right _ (List.mem_append_left _ hp)) hrow3) (intsAt_tail hw' (fun p hp => List.mem_append_left _ hp) hrow4) hrl) ?_)
      simp (disch := omega) only [push_cast, Nat.reduceEqDiff, h9, h10, h11, h22, h23, h24]
      refine ⟨st4, st4, ?_⟩
      rw [V_cond]
      simp (disch := omega) only [push_cast, Nat.reduceEqDiff, h9, h10, h11, h22, h23, h24]
      refine condX_b (fun hm => by cases hm) (fun _ => ?_)
      simp (disch := omega) only [push_cast, Nat.reduceEqDiff, h9, h10, h11, h22, h23, h24]
      refine ⟨j + 1, [(b4, Obj.cells #[.slice (some ⟨b', off', none⟩) l.length fc, .slice na nt.length nc] 46 (0, 0))], fun w hw => hw.drop (((List.Sublist.cons _ (List.Sublist.refl _)).trans (List.sublist_append_right M3 _)).trans (List.sublist_append_right M4 _)) (fun p hp => .inr (hLM4 p hp)), ⟨rfl, rfl, rfl, by omega, h9, h10, h11, h22, h23, by simp only [upd]; rfl⟩, by omega⟩
    · simp (disch := omega) only [push_cast, Nat.reduceEqDiff, h9, h10, h11, h22, h23, h24]
      refine ⟨i + 1, [], fun w hw => hw.end hL4, ⟨rfl, rfl, rfl, by omega, h9, h10, by simp only [upd]; rfl⟩, by omega⟩
  · simp (disch := omega) only [push_cast, Nat.reduceEqDiff, h9, h10, h11]
    exact finIs (by simp) rfl
end Go.Proofs.YthdejilihaombaaDoor
