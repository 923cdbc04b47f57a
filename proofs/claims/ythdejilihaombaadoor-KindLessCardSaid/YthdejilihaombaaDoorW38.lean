/- YthdejilihaombaaDoor: walks, part 38: a schema without one of its fields, or with one twice. -/
import Derived.Test.YthdejilihaombaaDoorW14
import Derived.Test.YthdejilihaombaaDoorW36
import Derived.Test.YthdejilihaombaaDoorW37
import Derived.Test.YthdejilihaombaaDoorW27
namespace Go.Proofs.YthdejilihaombaaDoor
open Go Go.K
set_option maxRecDepth 100000
set_option linter.unusedVariables false
set_option linter.unusedSimpArgs false
set_option maxHeartbeats 4000000
theorem infoFld : (Tryd.prog.info? 26).map (fun i => (i.zero, i.size, i.bytes)) = some (some (.agg #[str [], .bool false, i64 0, i64 0, i64 0, i64 0, .slice none 0 0]), 7, 80) := by kernel_rfl
theorem count_le (l : List Fld) (nt : List NoteT) : countP l nt ≤ 256 := by
  unfold countP
  by_cases h : mayP l nt = true
  · rw [if_pos h, ← count_may h]; exact few_nodes h
  · rw [if_neg h]; omega
theorem rdN_up {w : World} {lo lo' : Nat} {a : Option Addr} {nt : List NoteT} (h : RdN w lo a nt) (hle : lo ≤ lo') : RdN w lo' a nt := by
  rcases h with h | ⟨b, off, h1, h2, h3⟩
  · exact .inl h
  · exact .inr ⟨b, off, h1, Nat.lt_of_lt_of_le h2 hle, h3⟩
theorem check_ok {l : List Fld} {nt : List NoteT} (h : mayP l nt = true) : checkP l nt = (0, [], 0) := by
  obtain ⟨h1, h2, h3, h4⟩ := checkP_zero h
  unfold checkP
  rw [if_neg (by omega), if_neg (by omega), h3]
  simp only [faultN, firstWrong_none (fun j _ => h4 j)]
theorem mayP_eq' {l : List Fld} {nt : List NoteT} : mayP l nt = decide ((checkP l nt).1 = 0) := by
  unfold mayP
  rw [Bool.eq_iff_iff]
  simp
def LsP (w : World) (n : Nat) (csl cf : List Value) (R X13 : Own) (v71 v74 v81 v82 v83 v8 : Value) : Nat → Prop
  | 0 => R = []
  | 1 => RowO w 26 7 R [] v71 0 []
  | 2 => RowO w 26 7 R [] v74 n csl
  | 3 => ∃ va vc, v81 = .slice va (n + 1) vc ∧ RowO w 26 7 R [] (.slice va (n + 1) vc) (n + 1) (csl ++ cf)
  | 4 => ∃ va vc, v82 = .agg #[.slice va (n + 1) vc, .slice none 0 0] ∧ RowO w 26 7 R [] (.slice va (n + 1) vc) (n + 1) (csl ++ cf)
  | 5 => ∃ pa pc, v83 = .agg #[i64 31, .slice pa 1 pc, i64 0] ∧ RowIn R 3 (.slice pa 1 pc) 1 (ints [n])
  | 6 => ∃ pa pc b13, v8 = .pointer (some ⟨b13, 0, none⟩) ∧ X13 = [(b13, Obj.cells #[i64 31, .slice pa 1 pc, i64 0] 50 (0, 0))] ∧ RowIn R 3 (.slice pa 1 pc) 1 (ints [n])
  | _ => False
theorem LsP.other {w : World} {n : Nat} {csl cf : List Value} {R X : Own} {v71 v74 v81 v82 v83 v8 v8' : Value} {ph : Nat} (h : LsP w n csl cf R [] v71 v74 v81 v82 v83 v8 ph) : LsP w n csl cf R X v71 v74 v81 v82 v83 v8' ph := by
  match ph, h with
  | 0, h => exact h
  | 1, h => exact h
  | 2, h => exact h
  | 3, h => exact h
  | 4, h => exact h
  | 5, h => exact h
  | 6, ⟨_, _, _, _, h, _⟩ => cases h
structure LsI (w : World) (sa : Option Addr) (n c : Nat) (f : Fld) (fa : Option Addr) (fc : Nat) (csl : List Value) (B : Own) (D : Nat → Bool) (e : Env) (ds : List Deferred) (L : Own) : Prop where
  hds : ds = []
  h5 : e 5 = i64 n
  h73 : e 73 = .slice sa n c
  h79 : e 79 = .agg #[str f.nm, .bool f.nl, i64 f.k, i64 f.wd, i64 f.id, i64 f.ix, .slice fa f.sub.length fc]
  o : ∃ R X9 X13, L = R ++ (X9 ++ (X13 ++ B)) ∧ (∀ p ∈ R, w.heap.size ≤ p.1) ∧
    ((D 9 = false ∧ X9 = []) ∨ (D 9 = true ∧ ∃ b9, w.heap.size ≤ b9 ∧ X9 = [(b9, Obj.cells #[str f.nm, .bool f.nl, i64 f.k, i64 f.wd, i64 f.id, i64 f.ix, .slice fa f.sub.length fc] 26 (0, 0))] ∧ e 80 = .slice (some ⟨b9, 0, none⟩) 1 1)) ∧
    ((D 13 = false ∧ X13 = []) ∨ (D 13 = true ∧ ∃ b13 o13, w.heap.size ≤ b13 ∧ X13 = [(b13, Obj.cells o13 50 (0, 0))] ∧ e 8 = .pointer (some ⟨b13, 0, none⟩) ∧ (D 14 = false → o13 = #[i64 0, .slice none 0 0, i64 0]))) ∧
    ∃ ph, D 0 = decide (1 ≤ ph) ∧ D 3 = decide (2 ≤ ph) ∧ D 10 = decide (3 ≤ ph) ∧ D 11 = decide (4 ≤ ph) ∧ D 12 = decide (5 ≤ ph) ∧ D 14 = decide (6 ≤ ph) ∧ LsP w n csl [str f.nm, .bool f.nl, i64 f.k, i64 f.wd, i64 f.id, i64 f.ix, .slice fa f.sub.length fc] R X13 (e 71) (e 74) (e 81) (e 82) (e 83) (e 8) ph
theorem LsI.new {w : World} {sa : Option Addr} {n c : Nat} {f : Fld} {fa : Option Addr} {fc : Nat} {csl : List Value} {B : Own} {D : Nat → Bool} {e : Env} {ds : List Deferred} {L : Own} (h : LsI w sa n c f fa fc csl B D e ds L) (hB : ∀ p ∈ B, w.heap.size ≤ p.1) : (∀ p ∈ L, w.heap.size ≤ p.1) ∧ ∀ p ∈ B, p ∈ L := by
  obtain ⟨R, X9, X13, rfl, hR, h9, h13, _⟩ := h.o
  refine ⟨fun p hp => ?_, fun p hp => by simp [hp]⟩
  rcases List.mem_append.1 hp with hp | hp
  · exact hR p hp
  rcases List.mem_append.1 hp with hp | hp
  · rcases h9 with ⟨_, rfl⟩ | ⟨_, b9, hb, rfl, _⟩
    · cases hp
    · rw [List.mem_singleton.1 hp]; exact hb
  rcases List.mem_append.1 hp with hp | hp
  · rcases h13 with ⟨_, rfl⟩ | ⟨_, b13, o13, hb, rfl, _⟩
    · cases hp
    · rw [List.mem_singleton.1 hp]; exact hb
  · exact hB p hp
theorem kindLess_walk (w : World) (hs : SaysAt w) (lo : Nat) (hlo : lo ≤ w.heap.size) (a : Option Addr) (l : List Fld) (c : Nat) (na : Option Addr) (nt : List NoteT) (nc : Nat) (hsc : SchAt w lo a l c na nt nc) (k : Int) :
    Calls Tryd.prog 7 #[schV a l c na nt nc, i64 k] w (Rets w (Is (.bool true))) := by
  refine enterT (args := [schV a l c na nt nc, i64 k]) Tryd.func7 rfl Tryd.ntmps7 (congrArg Array.toList Tryd.results7) (by kernel_rfl) (by simp) (Sy.refl w) ?_
  simp (disch := omega) only [push_cast, Nat.reduceEqDiff, schV]
  refine newI (fun b2 hb2 hn2 => ?_)
  have hL : ∀ p ∈ [(b2, Obj.cells #[.slice a l.length c, .slice na nt.length nc] 46 (0, 0))], w.heap.size ≤ p.1 := by
    intro p hp; rw [List.mem_singleton.1 hp]; exact hb2
  have k1 := fun w' (L' : Own) (hL' : ∀ p ∈ L', w.heap.size ≤ p.1) hw' => hsc.sy hlo (w' := w') (M := L') hw' (fun p hp => Nat.le_trans hlo (hL' p hp))
  have hl63 := Nat.le_trans hsc.hc hsc.hc2
  have hlc := hsc.hc
  have hc63 := hsc.hc2
  simp (disch := omega) only [push_cast, Nat.reduceEqDiff]
  refine callV en_21 (callX_is (fun w' hw' => awake_walk w' (hs.mono hw' hL)) ?_)
  simp (disch := omega) only [push_cast, Nat.reduceEqDiff]
  rw [V_cond]
  simp (disch := omega) only [push_cast, Nat.reduceEqDiff]
  refine condX_b (fun hm => by cases hm) (fun _ => ?_)
  simp (disch := omega) only [push_cast, Nat.reduceEqDiff]
  repeat' (first | ((first | refine guardX_t rfl (fun h => ?_) (fun h => ?_) | refine guardX_f rfl (fun h => ?_) (fun h => ?_) | refine condX_d (fun h => ?_) (fun h => ?_) | (refine guardX_bt rfl (fun h => ?_) (fun h => ?_) <;> (try subst h)) | (refine guardX_bf rfl (fun h => ?_) (fun h => ?_) <;> (try subst h)) | (refine condX_b (fun h => ?_) (fun h => ?_) <;> (try subst h)) | refine ldOne Shp.eq (by (first | exact mem0 | exact mem1 | exact mem2 | exact mem3 | exact mem4 | exact mem5)) rfl ?_ | refine loadX_agg Shp.eq (by (first | exact mem0 | exact mem1 | exact mem2 | exact mem3 | exact mem4 | exact mem5)) rfl rfl ?_ | refine newI (fun b hb hn => ?_) | refine storeX 0 rfl Siz.eq rfl rfl (by simp [Value.oneCell']) (by simp) ?_ | refine storeX 1 rfl Siz.eq rfl rfl (by simp [Value.oneCell']) (by simp) ?_ | refine storeX 2 rfl Siz.eq rfl rfl (by simp [Value.oneCell']) (by simp) ?_ | refine storeX 3 rfl Siz.eq rfl rfl (by simp [Value.oneCell']) (by simp) ?_ | refine storeX 4 rfl Siz.eq rfl rfl (by simp [Value.oneCell']) (by simp) ?_ | refine storeX 5 rfl Siz.eq rfl rfl (by simp [Value.oneCell']) (by simp) ?_ | refine storeX 6 rfl Siz.eq rfl rfl (by simp [Value.oneCell']) (by simp) ?_) <;> simp (disch := omega) only [push_cast, Nat.reduceEqDiff]))
  refine callV en_23 (callX_newR (fun w' hw' => (by
    have k2 := k1 w' _ hL hw'
    exact check_walk w' (hs.mono hw' hL) lo (Nat.le_trans hlo hw'.size) l a c k2.hr k2.hc k2.hc2 nt na nc k2.hn k2.hnc k2.hnc2)) (fun v M hM hMn hS => ?_))
  obtain ⟨pa, pc, rfl, _⟩ := hS
  have hLM : ∀ p ∈ ((b2, Obj.cells #[.slice a l.length c, .slice na nt.length nc] 46 (0, 0)) :: M), w.heap.size ≤ p.1 := fun p hp => by
    rcases List.mem_cons.1 hp with rfl | hp
    · exact hb2
    · exact hM p hp
  simp (disch := omega) only [push_cast, Nat.reduceEqDiff]
  rw [V_cond]
  simp (disch := omega) only [push_cast, Nat.reduceEqDiff]
  refine condX_d (fun h1 => ?_) (fun h1 => ?_)
  · have hm : mayP l nt = false := by rw [mayP_eq']; exact decide_eq_false h1
    simp (disch := omega) only [push_cast, Nat.reduceEqDiff]
    repeat' (first | ((first | refine guardX_t rfl (fun h => ?_) (fun h => ?_) | refine guardX_f rfl (fun h => ?_) (fun h => ?_) | refine condX_d (fun h => ?_) (fun h => ?_) | (refine guardX_bt rfl (fun h => ?_) (fun h => ?_) <;> (try subst h)) | (refine guardX_bf rfl (fun h => ?_) (fun h => ?_) <;> (try subst h)) | (refine condX_b (fun h => ?_) (fun h => ?_) <;> (try subst h)) | refine ldOne Shp.eq (by (first | exact mem0 | exact mem1 | exact mem2 | exact mem3 | exact mem4 | exact mem5)) rfl ?_ | refine loadX_agg Shp.eq (by (first | exact mem0 | exact mem1 | exact mem2 | exact mem3 | exact mem4 | exact mem5)) rfl rfl ?_ | refine newI (fun b hb hn => ?_) | refine storeX 0 rfl Siz.eq rfl rfl (by simp [Value.oneCell']) (by simp) ?_ | refine storeX 1 rfl Siz.eq rfl rfl (by simp [Value.oneCell']) (by simp) ?_ | refine storeX 2 rfl Siz.eq rfl rfl (by simp [Value.oneCell']) (by simp) ?_ | refine storeX 3 rfl Siz.eq rfl rfl (by simp [Value.oneCell']) (by simp) ?_ | refine storeX 4 rfl Siz.eq rfl rfl (by simp [Value.oneCell']) (by simp) ?_ | refine storeX 5 rfl Siz.eq rfl rfl (by simp [Value.oneCell']) (by simp) ?_ | refine storeX 6 rfl Siz.eq rfl rfl (by simp [Value.oneCell']) (by simp) ?_) <;> simp (disch := omega) only [push_cast, Nat.reduceEqDiff]))
    refine callV en_27 (callX_is (fun w' hw' => count_walk w' (hs.mono hw' hLM) lo (Nat.le_trans hlo hw'.size) a l c na nt nc (k1 w' _ hLM hw')) ?_)
    simp (disch := omega) only [push_cast, Nat.reduceEqDiff]
    refine finIs hLM ?_
    simp [countP, hm]
  have hm : mayP l nt = true := by rw [mayP_eq']; exact decide_eq_true (Decidable.not_not.1 h1)
  simp (disch := omega) only [push_cast, Nat.reduceEqDiff]
  repeat' (first | ((first | refine guardX_t rfl (fun h => ?_) (fun h => ?_) | refine guardX_f rfl (fun h => ?_) (fun h => ?_) | refine condX_d (fun h => ?_) (fun h => ?_) | (refine guardX_bt rfl (fun h => ?_) (fun h => ?_) <;> (try subst h)) | (refine guardX_bf rfl (fun h => ?_) (fun h => ?_) <;> (try subst h)) | (refine condX_b (fun h => ?_) (fun h => ?_) <;> (try subst h)) | refine ldOne Shp.eq (by (first | exact mem0 | exact mem1 | exact mem2 | exact mem3 | exact mem4 | exact mem5)) rfl ?_ | refine loadX_agg Shp.eq (by (first | exact mem0 | exact mem1 | exact mem2 | exact mem3 | exact mem4 | exact mem5)) rfl rfl ?_ | refine newI (fun b hb hn => ?_) | refine storeX 0 rfl Siz.eq rfl rfl (by simp [Value.oneCell']) (by simp) ?_ | refine storeX 1 rfl Siz.eq rfl rfl (by simp [Value.oneCell']) (by simp) ?_ | refine storeX 2 rfl Siz.eq rfl rfl (by simp [Value.oneCell']) (by simp) ?_ | refine storeX 3 rfl Siz.eq rfl rfl (by simp [Value.oneCell']) (by simp) ?_ | refine storeX 4 rfl Siz.eq rfl rfl (by simp [Value.oneCell']) (by simp) ?_ | refine storeX 5 rfl Siz.eq rfl rfl (by simp [Value.oneCell']) (by simp) ?_ | refine storeX 6 rfl Siz.eq rfl rfl (by simp [Value.oneCell']) (by simp) ?_) <;> simp (disch := omega) only [push_cast, Nat.reduceEqDiff]))
  · -- from k on
    rename_i hk0
    rw [V_cond]
    simp (disch := omega) only [push_cast, Nat.reduceEqDiff]
    refine condX_d (fun hkn => ?_) (fun hkn => ?_)
    · simp (disch := omega) only [push_cast, Nat.reduceEqDiff]
      repeat' (first | ((first | refine guardX_t rfl (fun h => ?_) (fun h => ?_) | refine guardX_f rfl (fun h => ?_) (fun h => ?_) | refine condX_d (fun h => ?_) (fun h => ?_) | (refine guardX_bt rfl (fun h => ?_) (fun h => ?_) <;> (try subst h)) | (refine guardX_bf rfl (fun h => ?_) (fun h => ?_) <;> (try subst h)) | (refine condX_b (fun h => ?_) (fun h => ?_) <;> (try subst h)) | refine ldOne Shp.eq (by (first | exact mem0 | exact mem1 | exact mem2 | exact mem3 | exact mem4 | exact mem5)) rfl ?_ | refine loadX_agg Shp.eq (by (first | exact mem0 | exact mem1 | exact mem2 | exact mem3 | exact mem4 | exact mem5)) rfl rfl ?_ | refine newI (fun b hb hn => ?_) | refine storeX 0 rfl Siz.eq rfl rfl (by simp [Value.oneCell']) (by simp) ?_ | refine storeX 1 rfl Siz.eq rfl rfl (by simp [Value.oneCell']) (by simp) ?_ | refine storeX 2 rfl Siz.eq rfl rfl (by simp [Value.oneCell']) (by simp) ?_ | refine storeX 3 rfl Siz.eq rfl rfl (by simp [Value.oneCell']) (by simp) ?_ | refine storeX 4 rfl Siz.eq rfl rfl (by simp [Value.oneCell']) (by simp) ?_ | refine storeX 5 rfl Siz.eq rfl rfl (by simp [Value.oneCell']) (by simp) ?_ | refine storeX 6 rfl Siz.eq rfl rfl (by simp [Value.oneCell']) (by simp) ?_) <;> simp (disch := omega) only [push_cast, Nat.reduceEqDiff]))
      exact finIs hLM rfl
    obtain ⟨j, rfl⟩ : ∃ j : Nat, k = j := ⟨k.toNat, by omega⟩
    have hjl : j < l.length := by omega
    obtain ⟨f, hf⟩ : ∃ f, l[j]? = some f := ⟨_, List.getElem?_eq_getElem hjl⟩
    have hl32 := (checkP_zero hm).1
    have hsplit : l = l.take j ++ f :: l.drop (j + 1) := by
      conv => lhs; rw [← List.take_append_drop j l]
      rw [List.drop_eq_getElem_cons hjl]
      congr 2
      exact (List.getElem?_eq_some_iff.1 hf).2
    obtain ⟨b, off, rfl, hb⟩ : ∃ b off, a = some ⟨b, off, none⟩ ∧ b < lo := by
      obtain ⟨f0, l0, hl0⟩ : ∃ f l', l = f :: l' := List.exists_cons_of_ne_nil (by rintro rfl; simp at hf)
      have := hsc.hr
      rw [hl0] at this
      exact Rd.some_of this
    simp (disch := omega) only [push_cast, Nat.reduceEqDiff]
    refine freeT [1, 2, 3, 4, 6, 7, 8, 9, 10] [0, 5, 11, 12] [(b2, Obj.cells #[.slice (some ⟨b, off, none⟩) l.length c, .slice na nt.length nc] 46 (0, 0))] (by kernel_rfl) mixed (by kernel_rfl) (Stab.of (.cons_cons _ (List.nil_sublist _)) hLM) ?_
    simp (disch := omega) only [push_cast, Nat.reduceEqDiff]
    refine ldOne Shp.eq mem0 rfl ?_
    simp (disch := omega) only [push_cast, Nat.reduceEqDiff]
    refine ldOne Shp.eq mem0 rfl ?_
    simp (disch := omega) only [push_cast, Nat.reduceEqDiff]
    have hst1 : ∀ L1 : Own, (∀ p ∈ L1, w.heap.size ≤ p.1) → (b2, Obj.cells #[.slice (some ⟨b, off, none⟩) l.length c, .slice na nt.length nc] 46 (0, 0)) ∈ L1 → Stab w L1 [(b2, Obj.cells #[.slice (some ⟨b, off, none⟩) l.length c, .slice na nt.length nc] 46 (0, 0))] := fun L1 h1 h2 => Stab.of (List.singleton_sublist.2 h2) h1
    generalize hB : ((b2, Obj.cells #[.slice (some ⟨b, off, none⟩) l.length c, .slice na nt.length nc] 46 (0, 0)) :: M) = B at hLM ⊢
    have hb2B : (b2, Obj.cells #[.slice (some ⟨b, off, none⟩) l.length c, .slice na nt.length nc] 46 (0, 0)) ∈ B := by rw [← hB]; exact .head _
    refine makeEmpty un_22 ez_22 (newI fun b28 hb28 hn28 => ?_)
    simp (disch := omega) only [push_cast, Nat.reduceEqDiff]
    have hL28 : ∀ p ∈ ((b28, Obj.cells #[] 26 (0, 0)) :: B), w.heap.size ≤ p.1 := fun p hp => by
      rcases List.mem_cons.1 hp with rfl | hp
      · exact hb28
      · exact hLM p hp
    refine ⟨hst1 _ hL28 (.tail _ hb2B), ?_⟩
    obtain ⟨cs1, hc1, hr1⟩ := canRead_rd (hsc.hr.take j) hlo hL28
    have hlt1 : (l.take j).length = j := by rw [List.length_take]; omega
    have hld1 : (l.drop (j + 1)).length = l.length - (j + 1) := by rw [List.length_drop]
    refine appendI un_22 infoFld rfl (n := 0) (m := j) (xs := []) (M := B) ⟨rfl, .inr ⟨b28, 0, [], rfl, rfl, hb28, Nat.le_refl _, by simp only [maxLen]; omega, rfl, rfl⟩⟩ (by rw [hc1.len, hlt1]) hr1 hc1.one (by simp only [maxLen]; omega) (by omega) (fun v1 L1 hro1 _ => ?_)
    have hL1 := hro1.new hLM
    have e1 : ((j : Int) + 1).toNat = j + 1 := by omega
    simp (disch := omega) only [push_cast, Nat.reduceEqDiff, e1]
    refine ⟨hst1 _ hL1 (hro1.mem hb2B), ?_⟩
    obtain ⟨cs2, hc2, hr2⟩ : ∃ cs2, FldsC w lo (l.drop (j + 1)) cs2 ∧ CanRead w L1 ⟨b, if c = j + 1 then off else off + (j + 1) * 7, none⟩ cs2 := by
      split
      · have : l.drop (j + 1) = [] := List.drop_of_length_le (by omega)
        rw [this]
        exact ⟨[], rfl, fun w hw i v hv => by simp at hv⟩
      · exact canRead_rd (Rd.drop (j + 1) hsc.hr) hlo hL1
    refine appendI un_22 infoFld rfl (m := l.length - (j + 1)) hro1 (by rw [hc2.len, hld1]) hr2 hc2.one (by simp only [maxLen]; omega) (by omega) (fun v2 L2 hro2 _ => ?_)
    have hL2 := hro2.new hLM
    simp (disch := omega) only [push_cast, Nat.reduceEqDiff]
    refine ⟨hst1 _ hL2 (hro2.mem hb2B), hst1 _ hL2 (hro2.mem hb2B), ?_⟩
    have hcl : FldsC w lo (l.take j ++ l.drop (j + 1)) (cs1 ++ cs2) := FldsC.append hc2 hc1
    generalize hless : l.take j ++ l.drop (j + 1) = less at hcl
    have hlen : 0 + j + (l.length - (j + 1)) = less.length := by rw [← hless, List.length_append, hlt1, hld1]; omega
    have hro := hro2.cast hlen (by rw [List.nil_append])
    clear hro1 hro2
    obtain ⟨va, vc, rfl⟩ := hro.is_slice
    have hle := RowO.le hro
    have hsub : less.Sublist l := by rw [← hless]; conv => rhs; rw [hsplit]
                                     exact (List.sublist_cons_self _ _).append_left _
    have hmless : mayP less nt = true := may_less hsub hm (.inl rfl)
    have hmless0 : mayP less [] = true := may_less hsub hm (.inr rfl)
    have hm1 : mayP [f] [] = true := may_less (List.singleton_sublist.2 (List.mem_of_getElem? hf)) hm (.inr rfl)
    have hcount : countP less [] + countP [f] [] = countP l nt := by
      rw [← hless]
      have := hm
      rw [hsplit] at this
      rw [count_sum this, ← hsplit]
    have k2 := fun w' hw' => k1 w' L2 hL2 hw'
    have hb2L : (b2, Obj.cells #[.slice (some ⟨b, off, none⟩) l.length c, .slice na nt.length nc] 46 (0, 0)) ∈ L2 := hro.mem hb2B
    have hlw : ∀ {w'}, Sy w L2 w' → SaysAt w' ∧ lo ≤ w'.heap.size ∧ Rd w' w'.heap.size va less := fun {w'} hw' => ⟨hs.mono hw' hL2, Nat.le_trans hlo hw'.size, RowO.rd hro hcl hlo hw' (fun p hp => hp) (fun p hp => Nat.le_trans hlo (hL2 p hp))⟩
    refine loadX_agg Shp.eq hb2L rfl rfl ?_
    simp (disch := omega) only [push_cast, Nat.reduceEqDiff]
    refine callV en_27 (callX_is (fun w' hw' => count_walk w' (hlw hw').1 lo (hlw hw').2.1 _ l c na nt nc (k2 w' hw')) ?_)
    simp (disch := omega) only [push_cast, Nat.reduceEqDiff]
    refine forgetS (fun e => e 1 = i64 j ∧ e 2 = .pointer (some ⟨b2, 0, none⟩) ∧ e 5 = i64 l.length ∧ e 6 = .slice va less.length vc ∧ e 7 = i64 (countP l nt)) ⟨rfl, rfl, rfl, rfl, rfl⟩ ?_
    rintro e ⟨e1', e2, e5, e6, e7⟩
    refine drawQT (by kernel_rfl) (by kernel_rfl) mixed (by kernel_rfl) ?_
    simp (disch := omega) only [push_cast, Nat.reduceEqDiff, e1', e2, e5, e6, e7]
    refine ldOne Shp.eq hb2L rfl ?_
    simp (disch := omega) only [push_cast, Nat.reduceEqDiff, e1', e2, e5, e6, e7]
    refine qcallV en_23 (qcallX_new (.agg #[i64 0, .slice none 0 0, i64 0]) (fun w' hw' => (by
      exact check_walk w' (hlw hw').1 w'.heap.size (Nat.le_refl _) less va vc (hlw hw').2.2 hle.2.1 hle.2.2 nt na nc (rdN_up (k2 w' hw').hn (hlw hw').2.1) hsc.hnc hsc.hnc2)) (fun u M hS => ?_) ?_)
    · obtain ⟨pa, pc, rfl, _, hz⟩ := hS
      rw [check_ok hmless] at hz ⊢
      obtain ⟨rfl, rfl⟩ := hz rfl
      rfl
    simp (disch := omega) only [push_cast, Nat.reduceEqDiff, e1', e2, e5, e6, e7, ne_eq, not_true_eq_false, decide_false]
    refine qcallV en_27 (qcallX_is _ (fun w' hw' => count_walk w' (hlw hw').1 w'.heap.size (Nat.le_refl _) va less vc none [] 0 ⟨(hlw hw').2.2, hle.2.1, hle.2.2, .inl rfl, by simp, by omega⟩) ?_)
    simp (disch := omega) only [push_cast, Nat.reduceEqDiff, e1', e2, e5, e6, e7]
    refine ldOne Shp.eq hb2L rfl ?_
    simp (disch := omega) only [push_cast, Nat.reduceEqDiff, e1', e2, e5, e6, e7]
    rw [show (if c = j then off else off + j * 7) = off + j * 7 from if_neg (by omega), show ((j : Int) + 1).toNat - j = [f].length by simp only [List.length_singleton]; omega]
    have hrf : Rd w lo (some ⟨b, off + j * 7, none⟩) [f] := by
      have := (Rd.drop j hsc.hr).take 1
      rw [List.drop_eq_getElem_cons hjl, (List.getElem?_eq_some_iff.1 hf).2] at this
      exact this
    refine qcallV en_27 (qcallX_is _ (fun w' hw' => count_walk w' (hlw hw').1 lo (hlw hw').2.1 _ [f] (c - j) none [] 0 ⟨hrf.sy hlo hw' (fun p hp => Nat.le_trans hlo (hL2 p hp)), by simp only [List.length_singleton]; omega, by omega, .inl rfl, by simp, by omega⟩) ?_)
    have hc256 := count_le l nt
    have hci : ((countP less [] : Nat) : Int) + ((countP [f] [] : Nat) : Int) = ((countP l nt : Nat) : Int) := by omega
    simp (disch := omega) only [push_cast, Nat.reduceEqDiff, e1', e2, e5, e6, e7, hci, ne_eq, not_true_eq_false, decide_false]
    rw [V_cond]
    simp (disch := omega) only [push_cast, Nat.reduceEqDiff, e1', e2, e5, e6, e7]
    repeat' (first | ((first | refine guardX_t rfl (fun h => ?_) (fun h => ?_) | refine guardX_f rfl (fun h => ?_) (fun h => ?_) | refine condX_d (fun h => ?_) (fun h => ?_) | (refine guardX_bt rfl (fun h => ?_) (fun h => ?_) <;> (try subst h)) | (refine guardX_bf rfl (fun h => ?_) (fun h => ?_) <;> (try subst h)) | (refine condX_b (fun h => ?_) (fun h => ?_) <;> (try subst h)) | refine ldOne Shp.eq (by (first | exact mem0 | exact mem1 | exact mem2 | exact mem3 | exact mem4 | exact mem5)) rfl ?_ | refine loadX_agg Shp.eq (by (first | exact mem0 | exact mem1 | exact mem2 | exact mem3 | exact mem4 | exact mem5)) rfl rfl ?_ | refine newI (fun b hb hn => ?_) | refine storeX 0 rfl Siz.eq rfl rfl (by simp [Value.oneCell']) (by simp) ?_ | refine storeX 1 rfl Siz.eq rfl rfl (by simp [Value.oneCell']) (by simp) ?_ | refine storeX 2 rfl Siz.eq rfl rfl (by simp [Value.oneCell']) (by simp) ?_ | refine storeX 3 rfl Siz.eq rfl rfl (by simp [Value.oneCell']) (by simp) ?_ | refine storeX 4 rfl Siz.eq rfl rfl (by simp [Value.oneCell']) (by simp) ?_ | refine storeX 5 rfl Siz.eq rfl rfl (by simp [Value.oneCell']) (by simp) ?_ | refine storeX 6 rfl Siz.eq rfl rfl (by simp [Value.oneCell']) (by simp) ?_) <;> simp (disch := omega) only [push_cast, Nat.reduceEqDiff, e1', e2, e5, e6, e7]))
    rotate_left
    · rw [V_cond]
      simp (disch := omega) only [push_cast, Nat.reduceEqDiff]
      repeat' (first | ((first | refine guardX_t rfl (fun h => ?_) (fun h => ?_) | refine guardX_f rfl (fun h => ?_) (fun h => ?_) | refine condX_d (fun h => ?_) (fun h => ?_) | (refine guardX_bt rfl (fun h => ?_) (fun h => ?_) <;> (try subst h)) | (refine guardX_bf rfl (fun h => ?_) (fun h => ?_) <;> (try subst h)) | (refine condX_b (fun h => ?_) (fun h => ?_) <;> (try subst h)) | refine ldOne Shp.eq (by (first | exact mem0 | exact mem1 | exact mem2 | exact mem3 | exact mem4 | exact mem5)) rfl ?_ | refine loadX_agg Shp.eq (by (first | exact mem0 | exact mem1 | exact mem2 | exact mem3 | exact mem4 | exact mem5)) rfl rfl ?_ | refine newI (fun b hb hn => ?_) | refine storeX 0 rfl Siz.eq rfl rfl (by simp [Value.oneCell']) (by simp) ?_ | refine storeX 1 rfl Siz.eq rfl rfl (by simp [Value.oneCell']) (by simp) ?_ | refine storeX 2 rfl Siz.eq rfl rfl (by simp [Value.oneCell']) (by simp) ?_ | refine storeX 3 rfl Siz.eq rfl rfl (by simp [Value.oneCell']) (by simp) ?_ | refine storeX 4 rfl Siz.eq rfl rfl (by simp [Value.oneCell']) (by simp) ?_ | refine storeX 5 rfl Siz.eq rfl rfl (by simp [Value.oneCell']) (by simp) ?_ | refine storeX 6 rfl Siz.eq rfl rfl (by simp [Value.oneCell']) (by simp) ?_) <;> simp (disch := omega) only [push_cast, Nat.reduceEqDiff]))
      exact finIs hL2 rfl
    rename_i hn32
    rw [V_cond]
    simp (disch := omega) only [push_cast, Nat.reduceEqDiff]
    refine condX_d (fun hall => ?_) (fun hall => ?_)
    · simp (disch := omega) only [push_cast, Nat.reduceEqDiff]
      repeat' (first | ((first | refine guardX_t rfl (fun h => ?_) (fun h => ?_) | refine guardX_f rfl (fun h => ?_) (fun h => ?_) | refine condX_d (fun h => ?_) (fun h => ?_) | (refine guardX_bt rfl (fun h => ?_) (fun h => ?_) <;> (try subst h)) | (refine guardX_bf rfl (fun h => ?_) (fun h => ?_) <;> (try subst h)) | (refine condX_b (fun h => ?_) (fun h => ?_) <;> (try subst h)) | refine ldOne Shp.eq (by (first | exact mem0 | exact mem1 | exact mem2 | exact mem3 | exact mem4 | exact mem5)) rfl ?_ | refine loadX_agg Shp.eq (by (first | exact mem0 | exact mem1 | exact mem2 | exact mem3 | exact mem4 | exact mem5)) rfl rfl ?_ | refine newI (fun b hb hn => ?_) | refine storeX 0 rfl Siz.eq rfl rfl (by simp [Value.oneCell']) (by simp) ?_ | refine storeX 1 rfl Siz.eq rfl rfl (by simp [Value.oneCell']) (by simp) ?_ | refine storeX 2 rfl Siz.eq rfl rfl (by simp [Value.oneCell']) (by simp) ?_ | refine storeX 3 rfl Siz.eq rfl rfl (by simp [Value.oneCell']) (by simp) ?_ | refine storeX 4 rfl Siz.eq rfl rfl (by simp [Value.oneCell']) (by simp) ?_ | refine storeX 5 rfl Siz.eq rfl rfl (by simp [Value.oneCell']) (by simp) ?_ | refine storeX 6 rfl Siz.eq rfl rfl (by simp [Value.oneCell']) (by simp) ?_) <;> simp (disch := omega) only [push_cast, Nat.reduceEqDiff]))
      exact finIs hL2 rfl
    have hres := twice_law hm (List.mem_of_getElem? hf) (by omega) (by omega)
    simp (disch := omega) only [push_cast, Nat.reduceEqDiff]
    refine forgetS (fun e => e 1 = i64 j ∧ e 2 = .pointer (some ⟨b2, 0, none⟩) ∧ e 5 = i64 l.length) ⟨e1', e2, e5⟩ ?_
    clear e1' e2 e5 e6 e7 e
    rintro e ⟨e1', e2, e5⟩
    obtain ⟨fa, fc, x1, x2, x3, x4, x5, x6⟩ := hsc.hr.get j hf
    obtain ⟨csl, hcsl, hcat⟩ := Rd.toC (by rintro rfl; simp at hf) hsc.hr
    refine freeIT [1, 2, 4, 5, 6, 7, 8] [0, 3, 9, 10, 11, 12, 13, 14] [(0, []), (3, [0]), (9, []), (10, [3, 9]), (11, [10]), (12, [11]), (13, []), (14, [12, 13])] [(b2, Obj.cells #[.slice (some ⟨b, off, none⟩) l.length c, .slice na nt.length nc] 46 (0, 0))]
      (LsI w (some ⟨b, off, none⟩) l.length c f fa fc csl L2) (by kernel_rfl) mixed (by kernel_rfl) (by kernel_rfl) (fun D e ds L hI => hst1 _ (hI.new hL2).1 ((hI.new hL2).2 _ hb2L)) ?_ ?_ (hst1 _ hL2 hb2L) ?_
    · intro p hp D e ds L hD hdep hI
      have hLn := hI.new hL2
      obtain ⟨hds, h5, h73, h79, R, X9, X13, rfl, hR, h9, h13, ph, d0, d3, d10, d11, d12, d14, hph⟩ := hI
      subst hds
      simp only [List.mem_cons, List.mem_nil_iff, or_false] at hp
      rcases hp with rfl | rfl | rfl | rfl | rfl | rfl | rfl | rfl
      all_goals simp only [List.mem_cons, List.mem_nil_iff, or_false, forall_eq_or_imp, forall_eq, false_implies, implies_true] at hD hdep
      · -- an empty list
        obtain rfl : ph = 0 := by rw [d0] at hD; simp at hD; omega
        simp (disch := omega) only [push_cast, Nat.reduceEqDiff]
        refine makeEmpty un_22 ez_22 (newI fun b0 hb0 hn0 => ?_)
        simp (disch := omega) only [push_cast, Nat.reduceEqDiff]
        obtain rfl : R = [] := hph
        exact ⟨_, fun w hw => hw, rfl, h5, h73, h79, [(b0, Obj.cells #[] 26 (0, 0))], X9, X13, rfl, (by simpa using hb0), (by simpa [upd] using h9), (by simpa [upd] using h13), 1, (by simp [d0, d3, d10, d11, d12, d14]), (by simp [d0, d3, d10, d11, d12, d14]), (by simp [d0, d3, d10, d11, d12, d14]), (by simp [d0, d3, d10, d11, d12, d14]), (by simp [d0, d3, d10, d11, d12, d14]), (by simp [d0, d3, d10, d11, d12, d14]), ⟨rfl, .inr ⟨b0, 0, [], rfl, rfl, hb0, Nat.le_refl _, by simp only [maxLen]; omega, rfl, rfl⟩⟩⟩
      · -- all its fields
        obtain rfl : ph = 1 := by rw [d3] at hD; rw [d0] at hdep; simp at hD hdep; omega
        simp (disch := omega) only [push_cast, Nat.reduceEqDiff, h5, h73, h79]
        refine appendI un_22 infoFld rfl (m := l.length) (RowO.frame hph) hcsl.len (CanRead.of_at fun w' hw' => hcat.of_block (hw'.rest b hcat.lt (out_of fun p hp => Nat.lt_of_lt_of_le hcat.lt (hLn.1 p hp)))) hcsl.one (by simp only [maxLen]; omega) (by omega) (fun v' L' hro' _ => ?_)
        obtain ⟨R', rfl, hR'⟩ := RowO.unframe hro'
        simp (disch := omega) only [push_cast, Nat.reduceEqDiff]
        exact ⟨_, fun w hw => hw, rfl, h5, h73, h79, R', X9, X13, rfl, hR'.new (by simp), (by simpa [upd] using h9), (by simpa [upd] using h13), 2, (by simp [d0, d3, d10, d11, d12, d14]), (by simp [d0, d3, d10, d11, d12, d14]), (by simp [d0, d3, d10, d11, d12, d14]), (by simp [d0, d3, d10, d11, d12, d14]), (by simp [d0, d3, d10, d11, d12, d14]), (by simp [d0, d3, d10, d11, d12, d14]), hR'.cast (Nat.zero_add _) (List.nil_append _)⟩
      · -- the one alone
        obtain rfl : X9 = [] := by
          rcases h9 with ⟨_, h⟩ | ⟨h, _⟩
          · exact h
          · rw [hD] at h; cases h
        simp (disch := omega) only [push_cast, Nat.reduceEqDiff, h5, h73, h79]
        refine bs_22_1 (newI fun b9 hb9 hn9 => ?_)
        simp (disch := omega) only [push_cast, Nat.reduceEqDiff]
        exact ⟨R ++ ([(b9, Obj.cells #[str f.nm, .bool f.nl, i64 f.k, i64 f.wd, i64 f.id, i64 f.ix, .slice fa f.sub.length fc] 26 (0, 0))] ++ (X13 ++ L2)), fun w hw => hw.perm List.perm_middle.symm, rfl, h5, h73, h79, R, [(b9, Obj.cells #[str f.nm, .bool f.nl, i64 f.k, i64 f.wd, i64 f.id, i64 f.ix, .slice fa f.sub.length fc] 26 (0, 0))], X13, rfl, hR, .inr ⟨by simp, b9, hb9, rfl, rfl⟩, (by simpa [upd] using h13), ph, (by simp [d0]), (by simp [d3]), (by simp [d10]), (by simp [d11]), (by simp [d12]), (by simp [d14]), (by simpa [upd] using hph)⟩
      · -- both
        obtain ⟨hdep3, hdep9⟩ := hdep
        obtain rfl : ph = 2 := by rw [d10] at hD; rw [d3] at hdep3; simp at hD hdep3; omega
        obtain ⟨b9, hb9, rfl, h80⟩ : ∃ b9, w.heap.size ≤ b9 ∧ X9 = [(b9, Obj.cells #[str f.nm, .bool f.nl, i64 f.k, i64 f.wd, i64 f.id, i64 f.ix, .slice fa f.sub.length fc] 26 (0, 0))] ∧ e 80 = .slice (some ⟨b9, 0, none⟩) 1 1 := by
          rcases h9 with ⟨h, _⟩ | ⟨_, h⟩
          · rw [hdep9] at h; cases h
          · exact h
        simp (disch := omega) only [push_cast, Nat.reduceEqDiff, h5, h73, h79, h80]
        refine appendI un_22 infoFld rfl (m := 1) (news := [str f.nm, .bool f.nl, i64 f.k, i64 f.wd, i64 f.id, i64 f.ix, .slice fa f.sub.length fc]) (RowO.frame hph) rfl (CanRead.of_own (e := 26) (b := b9) (cs := [str f.nm, .bool f.nl, i64 f.k, i64 f.wd, i64 f.id, i64 f.ix, .slice fa f.sub.length fc]) (n := 7) (by simp) rfl rfl) (by simp [Value.oneCell']) (by simp only [maxLen]; omega) (by omega) (fun v' L' hro' _ => ?_)
        obtain ⟨R', rfl, hR'⟩ := RowO.unframe hro'
        obtain ⟨va', vc', rfl⟩ := hR'.is_slice
        simp (disch := omega) only [push_cast, Nat.reduceEqDiff]
        exact ⟨_, fun w hw => hw, rfl, h5, h73, h79, R', _, X13, rfl, hR'.new (by simp), .inr ⟨by simp [hdep9], b9, hb9, rfl, (by simp [upd, h80])⟩, (by simpa [upd] using h13), 3, (by simp [d0, d3, d10, d11, d12, d14]), (by simp [d0, d3, d10, d11, d12, d14]), (by simp [d0, d3, d10, d11, d12, d14]), (by simp [d0, d3, d10, d11, d12, d14]), (by simp [d0, d3, d10, d11, d12, d14]), (by simp [d0, d3, d10, d11, d12, d14]), ⟨va', vc', rfl, hR'⟩⟩
      · obtain rfl : ph = 3 := by rw [d11] at hD; rw [d10] at hdep; simp at hD hdep; omega
        obtain ⟨va', vc', h81, hro'⟩ := hph
        simp (disch := omega) only [push_cast, Nat.reduceEqDiff, h5, h73, h79, h81]
        exact ⟨_, fun w hw => hw, rfl, h5, h73, h79, R, X9, X13, rfl, hR, (by simpa [upd] using h9), (by simpa [upd] using h13), 4, (by simp [d0, d3, d10, d11, d12, d14]), (by simp [d0, d3, d10, d11, d12, d14]), (by simp [d0, d3, d10, d11, d12, d14]), (by simp [d0, d3, d10, d11, d12, d14]), (by simp [d0, d3, d10, d11, d12, d14]), (by simp [d0, d3, d10, d11, d12, d14]), ⟨va', vc', rfl, hro'⟩⟩
      · -- its Check
        obtain rfl : ph = 4 := by rw [d12] at hD; rw [d11] at hdep; simp at hD hdep; omega
        obtain ⟨va', vc', h82, hro'⟩ := hph
        have hlf : (l ++ [f]).length = l.length + 1 := by simp
        have hcf : FldsC w lo (l ++ [f]) (csl ++ [str f.nm, .bool f.nl, i64 f.k, i64 f.wd, i64 f.id, i64 f.ix, .slice fa f.sub.length fc]) := FldsC.append (show FldsC w lo [f] _ from ⟨fa, fc, [], by simp [Fld.cells], x3, x4, x5, x6, rfl⟩) hcsl
        have hle' := RowO.le hro'
        simp (disch := omega) only [push_cast, Nat.reduceEqDiff, h5, h73, h79, h82]
        refine callV en_23 (callX_new (S := fun v M => wrongFault v M (31, [l.length], 0)) (fun w' hw' => (by
          have k3 := check_walk w' (hs.mono hw' hLn.1) w'.heap.size (Nat.le_refl _) (l ++ [f]) va' vc' (RowO.rd (hro'.cast hlf.symm rfl) hcf hlo hw' (fun p hp => List.mem_append_left _ hp) (fun p hp => Nat.le_trans hlo (hLn.1 p hp))) (by rw [hlf]; exact hle'.2.1) hle'.2.2 [] none 0 (.inl rfl) (by simp) (by omega)
          rw [hlf, hres] at k3
          exact k3)) (fun v M2 hM2 hMn2 hS => ?_))
        obtain ⟨pa2, pc2, rfl, hrow2, _⟩ := hS
        simp (disch := omega) only [push_cast, Nat.reduceEqDiff]
        exact ⟨(M2 ++ R) ++ (X9 ++ (X13 ++ L2)), fun w hw => by rw [List.append_assoc]; exact hw, rfl, h5, h73, h79, M2 ++ R, X9, X13, rfl, (fun p hp => by
          rcases List.mem_append.1 hp with hp | hp
          · exact hM2 p hp
          · exact hR p hp), (by simpa [upd] using h9), (by simpa [upd] using h13), 5, (by simp [d0, d3, d10, d11, d12, d14]), (by simp [d0, d3, d10, d11, d12, d14]), (by simp [d0, d3, d10, d11, d12, d14]), (by simp [d0, d3, d10, d11, d12, d14]), (by simp [d0, d3, d10, d11, d12, d14]), (by simp [d0, d3, d10, d11, d12, d14]), ⟨pa2, pc2, rfl, hrow2.mono fun p hp => List.mem_append_left _ hp⟩⟩
      · -- where it is kept
        obtain rfl : X13 = [] := by
          rcases h13 with ⟨_, h⟩ | ⟨h, _⟩
          · exact h
          · rw [hD] at h; cases h
        simp (disch := omega) only [push_cast, Nat.reduceEqDiff]
        refine newI fun b13 hb13 hn13 => ?_
        simp (disch := omega) only [push_cast, Nat.reduceEqDiff]
        refine ⟨R ++ (X9 ++ ([(b13, Obj.cells #[i64 0, .slice none 0 0, i64 0] 50 (0, 0))] ++ L2)), fun w hw => hw.perm (by
          have := (List.perm_middle (l₁ := R ++ X9) (a := ((b13, Obj.cells #[i64 0, .slice none 0 0, i64 0] 50 (0, 0)) : Nat × Obj)) (l₂ := L2)).symm
          simpa only [List.append_assoc, List.nil_append, List.singleton_append] using this), rfl, h5, h73, h79, R, X9, [(b13, Obj.cells #[i64 0, .slice none 0 0, i64 0] 50 (0, 0))], rfl, hR, (by simpa [upd] using h9), .inr ⟨by simp, b13, _, hb13, rfl, rfl, fun _ => rfl⟩, ph, (by simp [d0]), (by simp [d3]), (by simp [d10]), (by simp [d11]), (by simp [d12]), (by simp [d14]), ?_⟩
        exact LsP.other hph
      · -- it is kept
        obtain ⟨hdep12, hdep13⟩ := hdep
        obtain rfl : ph = 5 := by rw [d14] at hD; rw [d12] at hdep12; simp at hD hdep12; omega
        obtain ⟨pa2, pc2, h83, hrow2⟩ := hph
        obtain ⟨b13, o13, hb13, rfl, h8, ho13⟩ : ∃ b13 o13, w.heap.size ≤ b13 ∧ X13 = [(b13, Obj.cells o13 50 (0, 0))] ∧ e 8 = .pointer (some ⟨b13, 0, none⟩) ∧ (D 14 = false → o13 = #[i64 0, .slice none 0 0, i64 0]) := by
          rcases h13 with ⟨h, _⟩ | ⟨_, h⟩
          · rw [hdep13] at h; cases h
          · exact h
        obtain rfl := ho13 hD
        simp (disch := omega) only [push_cast, Nat.reduceEqDiff, h8, h83]
        refine storeX_weak (L' := (b13, Obj.cells #[i64 0, .slice none 0 0, i64 0] 50 (0, 0)) :: (R ++ (X9 ++ L2))) (fun w hw => hw.perm (by
          have := (List.perm_middle (l₁ := R ++ X9) (a := ((b13, Obj.cells #[i64 0, .slice none 0 0, i64 0] 50 (0, 0)) : Nat × Obj)) (l₂ := L2))
          simpa only [List.append_assoc, List.nil_append, List.singleton_append] using this)) (storeX 0 rfl Siz.eq rfl rfl (by simp [Value.oneCell']) (by simp) ?_)
        simp (disch := omega) only [push_cast, Nat.reduceEqDiff]
        exact ⟨R ++ (X9 ++ ([(b13, Obj.cells #[i64 31, .slice pa2 1 pc2, i64 0] 50 (0, 0))] ++ L2)), fun w hw => hw.perm (by
          have := (List.perm_middle (l₁ := R ++ X9) (a := ((b13, Obj.cells #[i64 31, .slice pa2 1 pc2, i64 0] 50 (0, 0)) : Nat × Obj)) (l₂ := L2)).symm
          simpa only [List.append_assoc, List.nil_append, List.singleton_append] using this), rfl, h5, h73, h79, R, X9, [(b13, Obj.cells #[i64 31, .slice pa2 1 pc2, i64 0] 50 (0, 0))], rfl, hR, (by simpa [upd] using h9), .inr ⟨by simp [hdep13], b13, _, hb13, rfl, h8, fun h => by simp at h⟩, 6, (by simp [d0, d3, d10, d11, d12, d14]), (by simp [d0, d3, d10, d11, d12, d14]), (by simp [d0, d3, d10, d11, d12, d14]), (by simp [d0, d3, d10, d11, d12, d14]), (by simp [d0, d3, d10, d11, d12, d14]), (by simp [d0, d3, d10, d11, d12, d14]), ⟨pa2, pc2, b13, h8, rfl, hrow2⟩⟩
    · intro D e ds L hall9 hI
      have hLn := hI.new hL2
      obtain ⟨hds, h5, h73, h79, R, X9, X13, rfl, hR, h9, h13, ph, d0, d3, d10, d11, d12, d14, hph⟩ := hI
      subst hds
      have hD14 := hall9 14 (by simp)
      rw [d14] at hD14
      have hph6 : 6 ≤ ph := by simpa using hD14
      obtain rfl : ph = 6 := by
        match ph, hph, hph6 with
        | 6, _, _ => rfl
        | n + 7, h, _ => exact h.elim
      obtain ⟨pa2, pc2, b13, h8, rfl, hrow2⟩ := hph
      have hm13 : (b13, Obj.cells #[i64 31, .slice pa2 1 pc2, i64 0] 50 (0, 0)) ∈ R ++ (X9 ++ ([(b13, Obj.cells #[i64 31, .slice pa2 1 pc2, i64 0] 50 (0, 0))] ++ L2)) := by simp
      have hRm : ∀ p ∈ R, p ∈ R ++ (X9 ++ ([(b13, Obj.cells #[i64 31, .slice pa2 1 pc2, i64 0] 50 (0, 0))] ++ L2)) := fun p hp => List.mem_append_left _ hp
      generalize R ++ (X9 ++ ([(b13, Obj.cells #[i64 31, .slice pa2 1 pc2, i64 0] 50 (0, 0))] ++ L2)) = L5 at hLn hm13 hRm
      simp (disch := omega) only [push_cast, Nat.reduceEqDiff, h5, h8, decide_true]
      refine ldOne Shp.eq hm13 rfl ?_
      simp (disch := omega) only [push_cast, Nat.reduceEqDiff, h5, h8, decide_true]
      refine ldOne Shp.eq hm13 rfl ?_
      simp (disch := omega) only [push_cast, Nat.reduceEqDiff, h5, h8, decide_true]
      refine bs_48_1 (newI fun b91 hb91 hn91 => ?_)
      have hL6 : ∀ p ∈ ((b91, Obj.cells #[i64 l.length] 3 (0, 0)) :: L5), w.heap.size ≤ p.1 := fun p hp => by
        rcases List.mem_cons.1 hp with rfl | hp
        · exact hb91
        · exact hLn.1 p hp
      simp (disch := omega) only [push_cast, Nat.reduceEqDiff, h5, h8, decide_true]
      refine callV en_28 (callX_is (v := .bool true) (fun w' hw' => by
        have k3 := eqInts_walk w' (toInts [l.length]) (toInts [l.length]) pa2 (some ⟨b91, 0, none⟩) pc2 1 (intsAt_row hw' (fun p hp => List.mem_cons_of_mem _ (hRm p hp)) hrow2) (.inr ⟨b91, 0, rfl, fun i n hi => At.of_own hw' (.head _) (by
          cases i with
          | zero => simp [toInts] at hi; subst hi; rfl
          | succ i => simp [toInts] at hi)⟩) (by simp [toInts])
        simpa [toInts] using k3) ?_)
      simp (disch := omega) only [push_cast, Nat.reduceEqDiff, h5, h8, decide_true]
      refine ldOne Shp.eq (.tail _ hm13) rfl ?_
      simp (disch := omega) only [push_cast, Nat.reduceEqDiff, h5, h8, decide_true]
      exact finIs hL6 rfl
    · simp (disch := omega) only [push_cast, Nat.reduceEqDiff, e1', e2, e5]
      refine ldOne Shp.eq mem0 rfl ?_
      simp (disch := omega) only [push_cast, Nat.reduceEqDiff, e1', e2, e5]
      refine ldOne Shp.eq mem0 rfl ?_
      simp (disch := omega) only [push_cast, Nat.reduceEqDiff, e1', e2, e5]
      refine ldAggF Shp.eq x2 rfl (out_of (fun p hp => by rw [List.mem_singleton.1 hp]; exact Nat.lt_of_lt_of_le (Nat.lt_of_lt_of_le x1 hlo) hb2)) ?_
      simp (disch := omega) only [push_cast, Nat.reduceEqDiff, e1', e2, e5, Fld.cells]
      refine ⟨rfl, e5, rfl, rfl, [], [], [], rfl, by simp, .inl ⟨rfl, rfl⟩, .inl ⟨rfl, rfl⟩, 0, rfl, rfl, rfl, rfl, rfl, rfl, rfl⟩
  · rename_i hk0
    rw [V_cond]
    simp (disch := omega) only [push_cast, Nat.reduceEqDiff]
    repeat' (first | ((first | refine guardX_t rfl (fun h => ?_) (fun h => ?_) | refine guardX_f rfl (fun h => ?_) (fun h => ?_) | refine condX_d (fun h => ?_) (fun h => ?_) | (refine guardX_bt rfl (fun h => ?_) (fun h => ?_) <;> (try subst h)) | (refine guardX_bf rfl (fun h => ?_) (fun h => ?_) <;> (try subst h)) | (refine condX_b (fun h => ?_) (fun h => ?_) <;> (try subst h)) | refine ldOne Shp.eq (by (first | exact mem0 | exact mem1 | exact mem2 | exact mem3 | exact mem4 | exact mem5)) rfl ?_ | refine loadX_agg Shp.eq (by (first | exact mem0 | exact mem1 | exact mem2 | exact mem3 | exact mem4 | exact mem5)) rfl rfl ?_ | refine newI (fun b hb hn => ?_) | refine storeX 0 rfl Siz.eq rfl rfl (by simp [Value.oneCell']) (by simp) ?_ | refine storeX 1 rfl Siz.eq rfl rfl (by simp [Value.oneCell']) (by simp) ?_ | refine storeX 2 rfl Siz.eq rfl rfl (by simp [Value.oneCell']) (by simp) ?_ | refine storeX 3 rfl Siz.eq rfl rfl (by simp [Value.oneCell']) (by simp) ?_ | refine storeX 4 rfl Siz.eq rfl rfl (by simp [Value.oneCell']) (by simp) ?_ | refine storeX 5 rfl Siz.eq rfl rfl (by simp [Value.oneCell']) (by simp) ?_ | refine storeX 6 rfl Siz.eq rfl rfl (by simp [Value.oneCell']) (by simp) ?_) <;> simp (disch := omega) only [push_cast, Nat.reduceEqDiff]))
    exact finIs hLM rfl
end Go.Proofs.YthdejilihaombaaDoor
