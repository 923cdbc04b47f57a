/- YtdmdgkpjjpijdaaDoor: plain law: a schema that may be may be without some of its fields; with one of them twice it may not. -/
import Derived.Test.YtdmdgkpjjpijdaaDoorW30
namespace Go.Proofs.YtdmdgkpjjpijdaaDoor
open Go Go.K
set_option linter.unusedVariables false
set_option linter.unusedSimpArgs false
/-- A node, its way by its length alone. -/
structure SN where
  n : Nat
  ah : List Fld
  f : Fld
  ind : Bool
def stN (x : FNode) : SN := ⟨x.path.length, x.ah, x.f, x.ind⟩
def sd : Nat → Nat → Bool → List Fld → List Fld → List SN
  | 0, _, _, _, _ => []
  | _ + 1, _, _, _, [] => []
  | d + 1, n, ind, ah, f :: l => ⟨n + 1, ah, f, ind⟩ :: (sd d (n + 1) (ind || f.k == 19) [] f.sub ++ sd (d + 1) n ind (ah ++ [f]) l)
  termination_by d _ _ _ l => (d, l.length)
theorem sd_zero (n : Nat) (ind : Bool) (ah l : List Fld) : sd 0 n ind ah l = [] := by rw [sd]
theorem sd_nil (d n : Nat) (ind : Bool) (ah : List Fld) : sd d n ind ah [] = [] := by cases d <;> rw [sd]
theorem sd_cons (d n : Nat) (ind : Bool) (ah : List Fld) (f : Fld) (l : List Fld) : sd (d + 1) n ind ah (f :: l) = ⟨n + 1, ah, f, ind⟩ :: (sd d (n + 1) (ind || f.k == 19) [] f.sub ++ sd (d + 1) n ind (ah ++ [f]) l) := by rw [sd]
theorem sd_flat (d : Nat) (ih : ∀ (path : List Nat) (ind : Bool) (l : List Fld), (nd d path ind l).map stN = sd d path.length ind [] l) (path : List Nat) (ind : Bool) (l0 : List Fld) : ∀ (l : List Fld) (i : Nat), l0.drop i = l →
    ((l.zipIdx i).flatMap fun p => ((⟨path ++ [p.2], l0.take p.2, p.1, ind⟩ : FNode) :: nd d (path ++ [p.2]) (ind || p.1.k == 19) p.1.sub)).map stN = sd (d + 1) path.length ind (l0.take i) l
  | [], i, _ => by simp [sd_nil]
  | f :: l, i, h => by
    have hf : l0[i]? = some f := by rw [← Nat.add_zero i, ← List.getElem?_drop, h]; rfl
    have h2 : l0.drop (i + 1) = l := by rw [← List.drop_drop, h]; rfl
    have := sd_flat d ih path ind l0 l (i + 1) h2
    rw [List.zipIdx_cons, List.flatMap_cons, List.map_append, this, List.map_cons, ih, sd_cons, List.cons_append, List.take_add_one, hf]
    simp [stN]
theorem sd_nd : ∀ (d : Nat) (path : List Nat) (ind : Bool) (l : List Fld), (nd d path ind l).map stN = sd d path.length ind [] l
  | 0, path, ind, l => by rw [sd_zero]; rfl
  | d + 1, path, ind, l => by
    have := sd_flat d (sd_nd d) path ind l l 0 rfl
    rw [List.take_zero] at this
    rw [← this, nd]
def idsS (zs : List SN) : List Int := (zs.filter fun z => z.f.k == 19).map fun z => z.f.id
def wrongZ (zs : List SN) (k : Nat) : Int := match zs[k]? with | some z => wrongN z.n z.ah z.f z.ind k (idsS (zs.take k)) | none => 0
theorem ids_st (ns : List FNode) : idsOf ns = idsS (ns.map stN) := by
  unfold idsOf idsS
  rw [List.filter_map, List.map_map]
  rfl
theorem wrong_st (ns : List FNode) (k : Nat) : wrongAt ns k = wrongZ (ns.map stN) k := by
  unfold wrongAt wrongZ
  rw [List.getElem?_map, ← List.map_take, ← ids_st]
  cases ns[k]? <;> rfl
inductive Emb : List SN → List SN → Prop where
  | nil (b : List SN) : Emb [] b
  | skip {x : SN} {a b : List SN} : Emb a b → Emb a (x :: b)
  | keep {n : Nat} {ah ah' : List Fld} {f : Fld} {ind : Bool} {a b : List SN} : (∀ g ∈ ah', g ∈ ah) → Emb a b → Emb (⟨n, ah', f, ind⟩ :: a) (⟨n, ah, f, ind⟩ :: b)
theorem Emb.refl : ∀ a : List SN, Emb a a
  | [] => .nil _
  | _ :: a => .keep (fun _ h => h) (Emb.refl a)
theorem Emb.pre : ∀ (c : List SN) {a b : List SN}, Emb a b → Emb (c ++ a) (c ++ b)
  | [], _, _, h => h
  | _ :: c, _, _, h => .keep (fun _ h => h) (Emb.pre c h)
theorem Emb.skips : ∀ (c : List SN) {a b : List SN}, Emb a b → Emb a (c ++ b)
  | [], _, _, h => h
  | _ :: c, _, _, h => .skip (Emb.skips c h)
theorem Emb.ids {a b : List SN} (h : Emb a b) : ∀ i ∈ idsS a, i ∈ idsS b := by
  induction h with
  | nil b => intro i hi; cases hi
  | @skip x a b h ih =>
    intro i hi
    have := ih i hi
    unfold idsS at this ⊢
    rw [List.filter_cons]
    split
    · exact .tail _ this
    · exact this
  | @keep n ah ah' f ind a b hs h ih =>
    intro i hi
    unfold idsS at hi ih ⊢
    rw [List.filter_cons] at hi ⊢
    simp only at hi ⊢
    split at hi
    · rename_i hk
      rw [if_pos hk]
      rw [List.map_cons] at hi ⊢
      rcases List.mem_cons.1 hi with rfl | hi
      · exact .head _
      · exact .tail _ (ih i hi)
    · rename_i hk
      rw [if_neg hk]
      exact ih i hi
theorem Emb.get {a b : List SN} (h : Emb a b) : ∀ (k : Nat) (z : SN), a[k]? = some z → ∃ k' z', b[k']? = some z' ∧ k ≤ k' ∧ z.n = z'.n ∧ z.f = z'.f ∧ z.ind = z'.ind ∧ (∀ g ∈ z.ah, g ∈ z'.ah) ∧ Emb (a.take k) (b.take k') := by
  induction h with
  | nil b => intro k z hz; simp at hz
  | @skip x a b h ih =>
    intro k z hz
    obtain ⟨k', z', h1, h2, h3, h4, h5, h6, h7⟩ := ih k z hz
    exact ⟨k' + 1, z', by simpa using h1, by omega, h3, h4, h5, h6, by rw [List.take_succ_cons]; exact .skip h7⟩
  | @keep n ah ah' f ind a b hs h ih =>
    intro k z hz
    cases k with
    | zero => simp only [List.getElem?_cons_zero, Option.some.injEq] at hz; subst hz; exact ⟨0, _, rfl, Nat.le_refl _, rfl, rfl, rfl, hs, .nil _⟩
    | succ k =>
      obtain ⟨k', z', h1, h2, h3, h4, h5, h6, h7⟩ := ih k z (by simpa using hz)
      exact ⟨k' + 1, z', by simpa using h1, by omega, h3, h4, h5, h6, by rw [List.take_succ_cons, List.take_succ_cons]; exact .keep hs h7⟩
theorem Emb.sub {l' l : List Fld} (hs : l'.Sublist l) : ∀ (d n : Nat) (ind : Bool) (ah' ah : List Fld), (∀ g ∈ ah', g ∈ ah) → Emb (sd d n ind ah' l') (sd d n ind ah l) := by
  induction hs with
  | slnil => intro d n ind ah' ah h; rw [sd_nil]; exact .nil _
  | @cons l1 l2 a h ih =>
    intro d n ind ah' ah hah
    cases d with
    | zero => rw [sd_zero]; exact .nil _
    | succ d =>
      rw [sd_cons]
      exact .skip (Emb.skips _ (ih (d + 1) n ind ah' (ah ++ [a]) fun g hg => List.mem_append_left _ (hah g hg)))
  | @cons_cons l1 l2 a h ih =>
    intro d n ind ah' ah hah
    cases d with
    | zero => rw [sd_zero]; exact .nil _
    | succ d =>
      rw [sd_cons, sd_cons]
      exact .keep hah (Emb.pre _ (ih (d + 1) n ind (ah' ++ [a]) (ah ++ [a]) fun g hg => by
        rcases List.mem_append.1 hg with hg | hg
        · exact List.mem_append_left _ (hah g hg)
        · exact List.mem_append_right _ hg))
theorem wrongN_less {n : Nat} {ah ah' : List Fld} {f : Fld} {ind : Bool} {k k' : Int} {S S' : List Int} (h : wrongN n ah f ind k S = 0) (hk : k' ≤ k) (hah : ∀ g ∈ ah', g ∈ ah) (hS : ∀ i ∈ S', i ∈ S) : wrongN n ah' f ind k' S' = 0 := by
  unfold wrongN at h ⊢
  by_cases h1 : 64 < n
  · rw [if_pos h1] at h; cases h
  rw [if_neg h1] at h ⊢
  by_cases h2 : 256 ≤ k
  · rw [if_pos h2] at h; cases h
  rw [if_neg h2] at h
  rw [if_neg (by omega : ¬ 256 ≤ k')]
  by_cases h3 : ¬ isName f.nm
  · rw [if_pos h3] at h; cases h
  rw [if_neg h3] at h ⊢
  by_cases h4 : ah.any (fun g => decide (g.nm = f.nm)) = true
  · rw [if_pos h4] at h; cases h
  rw [if_neg h4] at h
  have h4' : ¬ ah'.any (fun g => decide (g.nm = f.nm)) = true := fun hh => h4 (by
    rw [List.any_eq_true] at hh ⊢
    obtain ⟨g, hg, he⟩ := hh
    exact ⟨g, hah g hg, he⟩)
  rw [if_neg h4']
  by_cases h5 : ¬ shapedF f
  · rw [if_pos h5] at h; cases h
  rw [if_neg h5] at h ⊢
  by_cases h6 : nullsB f = false
  · rw [if_pos h6] at h; cases h
  rw [if_neg h6] at h ⊢
  by_cases h7 : ind = true ∧ (f.k = 19 ∨ f.k = 20)
  · rw [if_pos h7] at h; cases h
  rw [if_neg h7] at h ⊢
  by_cases h8 : f.k = 19 ∧ (firstNl f = true ∨ f.id ∈ S)
  · rw [if_pos h8] at h; cases h
  rw [if_neg (fun hh => h8 ⟨hh.1, hh.2.imp id (hS _)⟩)]
theorem mayP_of {l : List Fld} {nt : List NoteT} (h1 : l.length ≤ 32) (h2 : nt.length ≤ 16) (h3 : nt.findIdx? longNote = none) (h4 : ∀ k, wrongAt (nd 65 [] false l) k = 0) : mayP l nt = true := by
  unfold mayP checkP
  rw [if_neg (by omega), if_neg (by omega), h3]
  simp only [faultN, firstWrong_none (fun j _ => h4 j)]
  rfl
theorem wrong_less {l l' : List Fld} (hs : l'.Sublist l) (h : ∀ k, wrongAt (nd 65 [] false l) k = 0) : ∀ k, wrongAt (nd 65 [] false l') k = 0 := fun k => by
  rw [wrong_st, sd_nd]
  unfold wrongZ
  cases hz : (sd 65 ([] : List Nat).length false [] l')[k]? with
  | none => rfl
  | some z =>
    obtain ⟨k', z', h1, h2, h3, h4, h5, h6, h7⟩ := (Emb.sub hs 65 ([] : List Nat).length false [] [] fun _ h => h).get k z hz
    have h8 := h k'
    rw [wrong_st, sd_nd] at h8
    unfold wrongZ at h8
    rw [h1] at h8
    simp only at h8 ⊢
    rw [h3, h4, h5]
    exact wrongN_less h8 (by omega) h6 h7.ids
theorem may_less {l l' : List Fld} {nt nt' : List NoteT} (hs : l'.Sublist l) (h : mayP l nt = true) (hn : nt' = nt ∨ nt' = []) : mayP l' nt' = true := by
  obtain ⟨h1, h2, h3, h4⟩ := checkP_zero h
  refine mayP_of (Nat.le_trans hs.length_le h1) ?_ ?_ (wrong_less hs h4)
  · rcases hn with rfl | rfl
    · exact h2
    · simp
  · rcases hn with rfl | rfl
    · exact h3
    · rfl
theorem keys_len (d : Nat) (path : List Nat) (ind : Bool) (l : List Fld) : (nd d path ind l).length = (keysL d l).length := by rw [← keys_nd d path ind l, List.length_map]
theorem count_sum {A B : List Fld} {f : Fld} {nt : List NoteT} (h : mayP (A ++ f :: B) nt = true) : countP (A ++ B) [] + countP [f] [] = countP (A ++ f :: B) nt := by
  have h1 : mayP (A ++ B) [] = true := may_less ((List.sublist_cons_self f B).append_left A) h (.inr rfl)
  have h2 : mayP [f] [] = true := may_less (List.singleton_sublist.2 (by simp)) h (.inr rfl)
  unfold countP
  rw [if_pos h, if_pos h1, if_pos h2, keys_len, keys_len, keys_len]
  have e : ∀ d (X Y : List Fld), (keysL d (X ++ Y)).length = (keysL d X).length + (keysL d Y).length := fun d X Y => by
    cases d with
    | zero => rfl
    | succ d => rw [keysL, keysL, keysL, List.flatMap_append, List.length_append]
  rw [e, e, show f :: B = [f] ++ B from rfl, e]
  omega
theorem nd_snoc (l : List Fld) (f : Fld) (path : List Nat) (ind : Bool) (d : Nat) : ∃ r, nd (d + 1) path ind (l ++ [f]) = nd (d + 1) path ind l ++ (⟨path ++ [l.length], l, f, ind⟩ :: r) := by
  refine ⟨nd d (path ++ [l.length]) (ind || f.k == 19) f.sub, ?_⟩
  rw [nd, nd, List.zipIdx_append, List.flatMap_append]
  congr 1
  · have : ∀ p ∈ l.zipIdx, (l ++ [f]).take p.2 = l.take p.2 := fun p hp => by
      have := (List.mem_zipIdx hp).2.1
      rw [List.take_append_of_le_length (by omega)]
    generalize l.zipIdx = z at this
    induction z with
    | nil => rfl
    | cons p z ih => rw [List.flatMap_cons, List.flatMap_cons, ih fun q hq => this q (.tail _ hq), this p (.head _)]
  · simp
theorem twice_law {l : List Fld} {nt : List NoteT} {f : Fld} (h : mayP l nt = true) (hf : f ∈ l) (hn : l.length ≠ 32) (hc : countP l nt ≠ 256) : checkP (l ++ [f]) [] = (31, [l.length], 0) := by
  obtain ⟨h1, h2, h3, h4⟩ := checkP_zero h
  have hfew := few_nodes h
  have hN : (nd 65 [] false l).length ≠ 256 := fun hh => hc (by unfold countP; rw [if_pos h, ← count_may h, hh])
  obtain ⟨r, hr⟩ : ∃ r, nd 65 [] false (l ++ [f]) = nd 65 [] false l ++ (⟨[] ++ [l.length], l, f, false⟩ :: r) := nd_snoc l f [] false 64
  have hname : isName f.nm := by
    obtain ⟨i, hi⟩ := List.mem_iff_getElem?.1 hf
    have h5 := nd_here 64 [] false l i f hi
    have h6 := h4 ((ndAt 64 [] false l i).length)
    unfold wrongAt at h6
    rw [h5] at h6
    simp only at h6
    unfold wrongN at h6
    by_cases q1 : 64 < ([] ++ [i] : List Nat).length
    · rw [if_pos q1] at h6; cases h6
    rw [if_neg q1] at h6
    by_cases q2 : (256 : Int) ≤ ((ndAt 64 [] false l i).length : Nat)
    · rw [if_pos q2] at h6; cases h6
    rw [if_neg q2] at h6
    by_cases q3 : ¬ isName f.nm
    · rw [if_pos q3] at h6; cases h6
    exact Decidable.not_not.1 q3
  have hat : wrongAt (nd 65 [] false (l ++ [f])) (nd 65 [] false l).length = 31 := by
    unfold wrongAt
    rw [hr, List.getElem?_append_right (Nat.le_refl _), Nat.sub_self]
    simp only [List.getElem?_cons_zero]
    unfold wrongN
    rw [if_neg (by simp), if_neg (by omega), if_neg (Decidable.not_not.2 hname), if_pos (by rw [List.any_eq_true]; exact ⟨f, hf, by simp⟩)]
  have hbefore : ∀ j, j < (nd 65 [] false l).length → wrongAt (nd 65 [] false (l ++ [f])) j = 0 := fun j hj => by
    rw [← h4 j]
    unfold wrongAt
    rw [hr, List.getElem?_append_left hj, List.take_append_of_le_length (by omega)]
  have hfw : firstWrong (nd 65 [] false (l ++ [f])) = some (nd 65 [] false l).length := firstWrong_at (by rw [hr, List.length_append, List.length_cons]; omega) hbefore (by rw [hat]; decide)
  unfold checkP
  rw [if_neg (by rw [List.length_append, List.length_singleton]; omega), if_neg (by simp)]
  simp only [List.findIdx?_nil, faultN, hfw, hat]
  unfold pathAt
  rw [hr, List.getElem?_append_right (Nat.le_refl _), Nat.sub_self]
  simp
end Go.Proofs.YtdmdgkpjjpijdaaDoor
