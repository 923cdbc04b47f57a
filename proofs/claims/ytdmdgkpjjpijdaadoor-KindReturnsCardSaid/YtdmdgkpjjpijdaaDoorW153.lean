/- YtdmdgkpjjpijdaaDoor: plain: what is printed is read again. -/
import Derived.Test.YtdmdgkpjjpijdaaDoorW155
import Derived.Test.YtdmdgkpjjpijdaaDoorW53
namespace Go.Proofs.YtdmdgkpjjpijdaaDoor
open Go Go.K
set_option maxRecDepth 100000
set_option linter.unusedVariables false
set_option linter.unusedSimpArgs false
/-! Where a piece of the text is known, reading it is known. -/
theorem drop_at {s a b : List UInt8} {q : Nat} (h : s.drop q = a ++ b) : s.drop (q + a.length) = b := by rw [← List.drop_drop, h, List.drop_left]
theorem drop_one {s b : List UInt8} {c : UInt8} {q : Nat} (h : s.drop q = c :: b) : s.drop (q + 1) = b := by rw [← List.drop_drop, h]; rfl
theorem drop_get {s b : List UInt8} {c : UInt8} {q : Nat} (h : s.drop q = c :: b) : s[q]? = some c := by
  have h1 : (s.drop q)[0]? = some c := by rw [h]; rfl
  simpa using h1
theorem drop_none {s : List UInt8} {q : Nat} (h : s.drop q = []) : s[q]? = none := by
  have h1 : (s.drop q)[0]? = none := by rw [h]; rfl
  simpa using h1
theorem drop_len {s b : List UInt8} {q : Nat} (h : s.drop q = b) (hq : q ≤ s.length) : q + b.length = s.length := by
  have := congrArg List.length h
  rw [List.length_drop] at this
  omega
theorem runP_app {f : UInt8 → Bool} {s a b : List UInt8} {q : Nat} (h : s.drop q = a ++ b) (ha : ∀ c ∈ a, f c = true) (hb : ∀ c, b.head? = some c → f c = false) : runP f s q = q + a.length := by
  unfold runP
  rw [h, List.takeWhile_append_of_pos ha]
  cases b with
  | nil => simp
  | cons c b => rw [List.takeWhile_cons, if_neg (by rw [hb c rfl]; decide), List.append_nil]
theorem bl_here {s b : List UInt8} {c : UInt8} {q : Nat} (h : s.drop q = c :: b) (hc : blankB c = false) : blP s q = q := runP_stop (drop_get h) hc
theorem bl_one {s b : List UInt8} {c : UInt8} {q : Nat} (h : s.drop q = 32 :: c :: b) (hc : blankB c = false) : blP s q = q + 1 := by
  rw [blP, runP_step (drop_get h) (by decide)]
  exact bl_here (drop_one h) hc
theorem bl_nil {s : List UInt8} {q : Nat} (h : s.drop q = []) : blP s q = q := runP_end (by
  have := congrArg List.length h
  rw [List.length_drop] at this
  simp at this
  omega)
theorem sign_here {s b : List UInt8} {c : UInt8} {q : Nat} (h : s.drop q = c :: b) : pSign s c q = some (blP s (q + 1)) := by
  unfold pSign
  rw [if_pos (drop_get h)]
theorem sign_not {s : List UInt8} {c : UInt8} {q : Nat} (h : s[q]? ≠ some c) : pSign s c q = none := by
  unfold pSign
  rw [if_neg h]
theorem must_here {s b : List UInt8} {c : UInt8} {q : Nat} (h : s.drop q = c :: b) : pMust s c q = .ok () (blP s (q + 1)) := by
  unfold pMust
  rw [sign_here h]
theorem word_read {s w b : List UInt8} {q : Nat} (h : s.drop q = w ++ b) (h0 : w ≠ []) (hw : ∀ c ∈ w, letB c = true) (hb : ∀ c, b.head? = some c → letB c = false) : pWord s q = .ok w (blP s (q + w.length)) := by
  have h1 : weP s q = q + w.length := runP_app h hw hb
  have h2 : 0 < w.length := List.length_pos_iff.2 h0
  unfold pWord
  rw [h1, if_neg (by omega)]
  congr 1
  rw [List.drop_take, Nat.add_sub_cancel_left, h, List.take_left]
theorem digs_dec : ∀ k : Nat, k < 100 → (numOK (digs k) = true ∧ numOf (digs k) = k ∧ (digs k).all letB = true ∧ digs k ≠ []) := by decide +kernel
theorem digs_all {n : Int} (h0 : 0 ≤ n) (hn : n < 100) : numOK (digs n) = true ∧ numOf (digs n) = n.toNat ∧ (∀ c ∈ digs n, letB c = true) ∧ digs n ≠ [] := by
  obtain ⟨k, rfl⟩ := Int.eq_ofNat_of_zero_le h0
  have h := digs_dec k (by omega)
  exact ⟨h.1, by simpa using h.2.1, List.all_eq_true.1 h.2.2.1, h.2.2.2⟩
theorem num_read {s b : List UInt8} {q : Nat} {n : Int} (h0 : 0 ≤ n) (hn : n < 100) (h : s.drop q = digs n ++ b) (hb : ∀ c, b.head? = some c → letB c = false) : pNum s q = .ok n.toNat (blP s (q + (digs n).length)) := by
  obtain ⟨h1, h2, h3, h4⟩ := digs_all h0 hn
  unfold pNum
  rw [word_read h h4 h3 hb, PR.and_ok, if_pos h1, h2]
theorem word_dec : ∀ k : Nat, k < 21 → 0 < k → (kindW (saysWord k) = k ∧ (saysWord k).all letB = true ∧ saysWord k ≠ []) := by decide +kernel
theorem kind_read {s b : List UInt8} {q k : Nat} {lets : Nat → Bool} (hk : 0 < k) (hk2 : k < 21) (hl : lets k = true) (h : s.drop q = saysWord k ++ b) (hb : ∀ c, b.head? = some c → letB c = false) : pKind s lets q = .ok k (blP s (q + (saysWord k).length)) := by
  obtain ⟨h1, h2, h3⟩ := word_dec k hk2 hk
  unfold pKind
  rw [word_read h h3 (List.all_eq_true.1 h2) hb, PR.and_ok, h1, if_pos ⟨by omega, hl⟩]
/-- A field that is read as it is printed; its children apart. -/
structure RdHere (f : Fld) : Prop where
  n0 : f.nm ≠ []
  nl : ∀ c ∈ f.nm, letB c = true
  k1 : 1 ≤ f.k
  k2 : f.k ≤ 20
  w1 : f.k = 14 ∨ f.k = 16 → 0 ≤ f.wd ∧ f.wd < 100
  w2 : ¬ (f.k = 14 ∨ f.k = 16) → f.wd = 0
  d1 : f.k = 19 → (0 ≤ f.id ∧ f.id < 100) ∧ 3 ≤ f.ix ∧ f.ix ≤ 10
  d2 : f.k ≠ 19 → f.id = 0 ∧ f.ix = 0
  s1 : f.k = 15 ∨ f.k = 16 ∨ f.k = 19 ∨ f.k = 20 → f.sub.length = 1
  s2 : f.k = 18 → f.sub ≠ []
  s3 : ¬ openK f.k → f.sub = []
def RdAll : Nat → List Fld → Prop
  | 0, l => l = []
  | d + 1, l => ∀ f ∈ l, RdHere f ∧ RdAll d f.sub
theorem fieldT_len (f : Fld) : (fieldT f).length = f.nm.length + (1 + ((textG f).length + if f.nl then 1 else 0)) := by
  unfold fieldT
  simp only [List.length_append, List.length_cons, List.length_nil]
  split <;> simp
/-- The texts of the fields behind the first one. -/
def restM : List Fld → List UInt8
  | [] => []
  | f :: l => 44 :: 32 :: (fieldT f ++ restM l)
theorem textM_rest : ∀ (l : List Fld) (i : Nat), textM (i + 1) l = restM l
  | [], i => by simp [textM, restM]
  | f :: l, i => by
    rw [textM, restM, textM_rest l (i + 1), if_neg (by omega), fieldT]
    simp
theorem textM_cons (f : Fld) (l : List Fld) : textM 0 (f :: l) = fieldT f ++ restM l := by
  rw [textM, if_pos rfl, textM_rest l 0, fieldT]
  simp
theorem restM_len : ∀ l : List Fld, l.length ≤ (restM l).length
  | [] => by simp [restM]
  | f :: l => by
    have := restM_len l
    rw [restM]
    simp only [List.length_cons, List.length_append]
    omega
theorem fld_eta (f : Fld) : Fld.mk f.nm f.nl f.k f.wd f.id f.ix f.sub = f := by cases f; rfl
theorem head_let {f : Fld} (h : RdHere f) : ∃ c r, fieldT f = c :: r ∧ letB c = true := by
  obtain ⟨c, r, e⟩ := List.exists_cons_of_ne_nil h.n0
  refine ⟨c, r ++ ([32] ++ (textG f ++ if f.nl then [63] else [])), ?_, h.nl c (by rw [e]; exact .head _)⟩
  rw [fieldT, e]
  rfl
theorem let_not {c d : UInt8} (h : letB c = true) (hd : letB d = false) : c ≠ d := by
  rintro rfl
  rw [h] at hd
  cases hd
/-- What may stand behind a field's text that is read. -/
structure Aft (s : List UInt8) (p : Nat) (b : List UInt8) : Prop where
  h : s.drop p = b
  hl : ∀ c, b.head? = some c → letB c = false
  h1 : s[blP s p]? ≠ some 63
def FieldRead (s : List UInt8) (D : Nat) : Prop := ∀ (d q : Nat) (f : Fld) (b : List UInt8), RdHere f → RdAll d f.sub → (fieldT f).length < D → s.drop q = fieldT f ++ b → Aft s (q + (fieldT f).length) b → ∃ sp, pField s D q = .ok (f, sp) (blP s (q + (fieldT f).length))
theorem many_read {s : List UInt8} {D : Nat} (hF : FieldRead s D) (d : Nat) : ∀ (l : List Fld) (f : Fld) (m q : Nat) (b : List UInt8), RdAll (d + 1) (f :: l) → (fieldT f ++ restM l).length < D → l.length < m → s.drop q = fieldT f ++ (restM l ++ b) → Aft s (q + (fieldT f ++ restM l).length) b → s[blP s (q + (fieldT f ++ restM l).length)]? ≠ some 44 →
    ∃ xs : List Fz, xs.map (·.1) = f :: l ∧ pMany s (pField s D) m q = .ok xs (blP s (q + (fieldT f ++ restM l).length))
  | l, f, 0, q, b, hr, hD, hm, h, ha, h44 => by omega
  | [], f, m + 1, q, b, hr, hD, hm, h, ha, h44 => by
    simp only [restM, List.append_nil, List.nil_append] at h ha hD h44 ⊢
    obtain ⟨sp, h1⟩ := hF d q f b (hr f (.head _)).1 (hr f (.head _)).2 hD h ha
    refine ⟨[(f, sp)], rfl, ?_⟩
    rw [pMany, h1, PR.and_ok, sign_not h44]
  | g :: l, f, m + 1, q, b, hr, hD, hm, h, ha, h44 => by
    have hrg := (hr g (.tail _ (.head _))).1
    obtain ⟨c, r, hgc, hgl⟩ := head_let hrg
    have hq1 : s.drop (q + (fieldT f).length) = 44 :: 32 :: (fieldT g ++ (restM l ++ b)) := by
      rw [drop_at h, restM]; simp
    have hb1 : blP s (q + (fieldT f).length) = q + (fieldT f).length := bl_here hq1 (by decide)
    have hq2 := drop_one hq1
    have hq3 := drop_one hq2
    have hb2 : blP s (q + (fieldT f).length + 1) = q + (fieldT f).length + 1 + 1 := by
      refine bl_one (c := c) (b := r ++ (restM l ++ b)) ?_ (let_blank hgl)
      rw [hq2, hgc]; rfl
    have hlen : (fieldT f ++ restM (g :: l)).length = (fieldT f).length + (2 + (fieldT g ++ restM l).length) := by
      rw [restM]; simp only [List.length_append, List.length_cons]; omega
    rw [hlen] at hD ha h44 ⊢
    obtain ⟨sp, h1⟩ := hF d q f (44 :: 32 :: (fieldT g ++ (restM l ++ b))) (hr f (.head _)).1 (hr f (.head _)).2 (by omega) (by rw [h, restM]; simp) ⟨hq1, fun c hc => by cases hc; decide, by rw [hb1, drop_get hq1]; decide⟩
    have e1 : q + ((fieldT f).length + (2 + (fieldT g ++ restM l).length)) = q + (fieldT f).length + 1 + 1 + (fieldT g ++ restM l).length := by omega
    rw [e1] at ha h44 ⊢
    obtain ⟨xs, h2, h3⟩ := many_read hF d l g m (q + (fieldT f).length + 1 + 1) b (fun x hx => hr x (.tail _ hx)) (by omega) (by simpa using hm) hq3 ha h44
    refine ⟨(f, sp) :: xs, by rw [List.map_cons, h2], ?_⟩
    rw [pMany, h1, PR.and_ok, hb1, sign_here hq1, hb2]
    simp only
    rw [h3, PR.and_ok]
theorem one_read {s : List UInt8} {D : Nat} (hF : FieldRead s D) (d : Nat) {l : List Fld} {q : Nat} {b : List UInt8} (hl : l.length = 1) (hr : RdAll d l) (hD : (textM 0 l).length < D) (h : s.drop q = textM 0 l ++ b) (ha : Aft s (q + (textM 0 l).length) b) :
    ∃ xs : List Fz, xs.map (·.1) = l ∧ one (pField s D) q = .ok xs (blP s (q + (textM 0 l).length)) := by
  match l, hl with
  | [f], _ =>
    cases d with
    | zero => cases hr
    | succ d =>
      rw [textM_cons, restM, List.append_nil] at *
      obtain ⟨sp, h1⟩ := hF d q f b (hr f (.head _)).1 (hr f (.head _)).2 hD h ha
      exact ⟨[(f, sp)], rfl, by rw [one, h1, PR.and_ok]⟩
/-- What stands in the brackets of a type is read. -/
theorem inner_read {s : List UInt8} {D : Nat} (hF : FieldRead s D) (d : Nat) {f : Fld} {q : Nat} {b : List UInt8} (hf : RdHere f) (hr : RdAll d f.sub) (hk : openK f.k) (hD : (textM 0 f.sub).length < D) (h : s.drop q = midT f.k f.wd f.id f.ix ++ (textM 0 f.sub ++ (41 :: b))) :
    ∃ xs : List Fz, xs.map (·.1) = f.sub ∧ pInner s (pField s D) f.k.toNat q = .ok ⟨f.k.toNat, f.wd.toNat, f.id.toNat, f.ix.toNat, xs⟩ (q + (midT f.k f.wd f.id f.ix).length + (textM 0 f.sub).length) := by
  have hend := drop_at (drop_at h)
  have hbe : blP s (q + (midT f.k f.wd f.id f.ix).length + (textM 0 f.sub).length) = q + (midT f.k f.wd f.id f.ix).length + (textM 0 f.sub).length := bl_here hend (by decide)
  have haft : Aft s (q + (midT f.k f.wd f.id f.ix).length + (textM 0 f.sub).length) (41 :: b) := ⟨hend, fun c hc => by cases hc; decide, by rw [hbe, drop_get hend]; decide⟩
  have h44 : s[blP s (q + (midT f.k f.wd f.id f.ix).length + (textM 0 f.sub).length)]? ≠ some 44 := by rw [hbe, drop_get hend]; decide
  -- the first child's text begins with a letter
  have hfirst : f.sub ≠ [] → ∃ c r, textM 0 f.sub = c :: r ∧ letB c = true := fun hne => by
    obtain ⟨g, l, e⟩ := List.exists_cons_of_ne_nil hne
    cases d with
    | zero => rw [show f.sub = [] from hr] at hne; exact absurd rfl hne
    | succ d =>
      obtain ⟨c, r, e2, e3⟩ := head_let (hr g (by rw [e]; exact .head _)).1
      exact ⟨c, r ++ restM l, by rw [e, textM_cons, e2]; rfl, e3⟩
  have hw0 : ¬ (f.k = 14 ∨ f.k = 16) → f.wd.toNat = 0 := fun hx => by rw [hf.w2 hx]; rfl
  have hi0 : f.k ≠ 19 → f.id.toNat = 0 ∧ f.ix.toNat = 0 := fun hx => by rw [(hf.d2 hx).1, (hf.d2 hx).2]; exact ⟨rfl, rfl⟩
  rcases hk with hk | hk | hk | hk | hk | hk
  · -- list
    have hm : midT f.k f.wd f.id f.ix = [] := by unfold midT; rw [hk]; rfl
    rw [hm, List.nil_append] at h
    rw [hm, List.length_nil, Nat.add_zero] at hbe haft h44 ⊢
    obtain ⟨xs, h1, h2⟩ := one_read hF d (hf.s1 (.inl hk)) hr hD h haft
    refine ⟨xs, h1, ?_⟩
    have e1 : f.k.toNat = 15 := by rw [hk]; rfl
    unfold pInner
    rw [e1, if_neg (by decide), if_neg (by decide), if_neg (by decide), if_neg (by decide), if_neg (by decide), h2, PR.and_ok, hw0 (by omega), (hi0 (by omega)).1, (hi0 (by omega)).2, hbe]
  · -- span
    obtain ⟨w1, w2⟩ := hf.w1 (.inr hk)
    have hm : midT f.k f.wd f.id f.ix = digs f.wd ++ [44, 32] := by unfold midT; rw [hk]; rfl
    obtain ⟨c, r, hc1, hc2⟩ := hfirst (by intro e; have := hf.s1 (.inr (.inl hk)); rw [e] at this; cases this)
    rw [hm] at h
    have hq0 : s.drop q = digs f.wd ++ (44 :: 32 :: (textM 0 f.sub ++ (41 :: b))) := by rw [h]; simp
    have hq1 := drop_at hq0
    have hq2 := drop_one hq1
    have hq3 := drop_one hq2
    have hml : (midT f.k f.wd f.id f.ix).length = (digs f.wd).length + 2 := by rw [hm]; simp
    have e2 : q + (midT f.k f.wd f.id f.ix).length = q + (digs f.wd).length + 1 + 1 := by omega
    rw [e2] at hbe haft h44 ⊢
    obtain ⟨xs, h1, h2⟩ := one_read hF d (hf.s1 (.inr (.inl hk))) hr hD hq3 haft
    refine ⟨xs, h1, ?_⟩
    have e1 : f.k.toNat = 16 := by rw [hk]; rfl
    unfold pInner
    rw [e1, if_neg (by decide), if_pos rfl, num_read w1 w2 hq0 (fun c hc => by cases hc; decide), PR.and_ok, bl_here hq1 (by decide), must_here hq1, PR.and_ok, bl_one (c := c) (b := r ++ (41 :: b)) (by rw [hq2, hc1]; rfl) (let_blank hc2), h2, PR.and_ok, (hi0 (by omega)).1, (hi0 (by omega)).2, hbe]
  · -- struct
    have hm : midT f.k f.wd f.id f.ix = [] := by unfold midT; rw [hk]; rfl
    rw [hm, List.nil_append] at h
    rw [hm, List.length_nil, Nat.add_zero] at hbe haft h44 hend ⊢
    have e1 : f.k.toNat = 17 := by rw [hk]; rfl
    by_cases hne : f.sub = []
    · refine ⟨[], hne.symm, ?_⟩
      rw [hne] at h hbe ⊢
      have ht : textM 0 [] = [] := by simp [textM]
      rw [ht, List.nil_append] at h
      unfold pInner
      rw [e1, if_neg (by decide), if_neg (by decide), if_neg (by decide), if_neg (by decide), if_pos rfl, if_pos (drop_get h), hw0 (by omega), (hi0 (by omega)).1, (hi0 (by omega)).2, ht]
      rfl
    · obtain ⟨c, r, hc1, hc2⟩ := hfirst hne
      have hnot : s[q]? ≠ some 41 := by
        rw [drop_get (c := c) (b := r ++ (41 :: b)) (by rw [h, hc1]; rfl)]
        intro e
        exact let_not hc2 (by decide) (Option.some.inj e)
      obtain ⟨g, l, e⟩ := List.exists_cons_of_ne_nil hne
      cases d with
      | zero => exact absurd hr hne
      | succ d =>
        rw [e] at h hr hD haft h44 hbe ⊢
        rw [textM_cons] at h hD haft h44 hbe ⊢
        rw [List.append_assoc] at h
        have hll : l.length < s.length + 1 := by
          have h5 := congrArg List.length h
          rw [List.length_drop] at h5
          simp only [List.length_append] at h5
          have := restM_len l
          omega
        obtain ⟨xs, h1, h2⟩ := many_read hF d l g (s.length + 1) q (41 :: b) hr hD hll h haft h44
        refine ⟨xs, h1, ?_⟩
        unfold pInner
        rw [e1, if_neg (by decide), if_neg (by decide), if_neg (by decide), if_neg (by decide), if_pos rfl, if_neg hnot, h2, PR.and_ok, hw0 (by omega), (hi0 (by omega)).1, (hi0 (by omega)).2, hbe]
  · -- choice
    have hm : midT f.k f.wd f.id f.ix = [] := by unfold midT; rw [hk]; rfl
    rw [hm, List.nil_append] at h
    rw [hm, List.length_nil, Nat.add_zero] at hbe haft h44 hend ⊢
    have e1 : f.k.toNat = 18 := by rw [hk]; rfl
    obtain ⟨g, l, e⟩ := List.exists_cons_of_ne_nil (hf.s2 hk)
    cases d with
    | zero => exact absurd hr (hf.s2 hk)
    | succ d =>
      rw [e] at h hr hD haft h44 hbe ⊢
      rw [textM_cons] at h hD haft h44 hbe ⊢
      rw [List.append_assoc] at h
      have hll : l.length < s.length + 1 := by
        have h5 := congrArg List.length h
        rw [List.length_drop] at h5
        simp only [List.length_append] at h5
        have := restM_len l
        omega
      obtain ⟨xs, h1, h2⟩ := many_read hF d l g (s.length + 1) q (41 :: b) hr hD hll h haft h44
      refine ⟨xs, h1, ?_⟩
      unfold pInner
      rw [e1, if_neg (by decide), if_neg (by decide), if_neg (by decide), if_pos rfl, h2, PR.and_ok, hw0 (by omega), (hi0 (by omega)).1, (hi0 (by omega)).2, hbe]
  · -- dict
    obtain ⟨⟨w1, w2⟩, w3, w4⟩ := hf.d1 hk
    have hm : midT f.k f.wd f.id f.ix = digs f.id ++ ([44, 32] ++ (saysWord f.ix.toNat ++ [44, 32])) := by unfold midT; rw [hk]; rfl
    obtain ⟨c, r, hc1, hc2⟩ := hfirst (by intro e; have := hf.s1 (.inr (.inr (.inl hk))); rw [e] at this; cases this)
    obtain ⟨v1, v2, v3⟩ := word_dec f.ix.toNat (by omega) (by omega)
    obtain ⟨c2, r2, hc3⟩ := List.exists_cons_of_ne_nil v3
    have hc4 : letB c2 = true := List.all_eq_true.1 v2 c2 (by rw [hc3]; exact .head _)
    rw [hm] at h
    have hq0 : s.drop q = digs f.id ++ (44 :: 32 :: (saysWord f.ix.toNat ++ (44 :: 32 :: (textM 0 f.sub ++ (41 :: b))))) := by rw [h]; simp
    have hq1 := drop_at hq0
    have hq2 := drop_one hq1
    have hq3 := drop_one hq2
    have hq4 := drop_at hq3
    have hq5 := drop_one hq4
    have hq6 := drop_one hq5
    have hml : (midT f.k f.wd f.id f.ix).length = (digs f.id).length + 2 + (saysWord f.ix.toNat).length + 2 := by rw [hm]; simp only [List.length_append, List.length_cons, List.length_nil]; omega
    have e2 : q + (midT f.k f.wd f.id f.ix).length = q + (digs f.id).length + 1 + 1 + (saysWord f.ix.toNat).length + 1 + 1 := by omega
    rw [e2] at hbe haft h44 ⊢
    obtain ⟨xs, h1, h2⟩ := one_read hF d (hf.s1 (.inr (.inr (.inl hk)))) hr hD hq6 haft
    refine ⟨xs, h1, ?_⟩
    have e1 : f.k.toNat = 19 := by rw [hk]; rfl
    have hix : saysIdx f.ix.toNat = true := (saysIdx_iff _ (by omega)).2 (by omega)
    unfold pInner
    rw [e1, if_neg (by decide), if_neg (by decide), if_pos rfl, num_read w1 w2 hq0 (fun c hc => by cases hc; decide), PR.and_ok, bl_here hq1 (by decide), must_here hq1, PR.and_ok,
      bl_one (c := c2) (b := r2 ++ (44 :: 32 :: (textM 0 f.sub ++ (41 :: b)))) (by rw [hq2, hc3]; rfl) (let_blank hc4), kind_read (by omega) (by omega) hix hq3 (fun c hc => by cases hc; decide), PR.and_ok,
      bl_here hq4 (by decide), must_here hq4, PR.and_ok, bl_one (c := c) (b := r ++ (41 :: b)) (by rw [hq5, hc1]; rfl) (let_blank hc2), h2, PR.and_ok, hw0 (by omega), hbe]
  · -- runs
    have hm : midT f.k f.wd f.id f.ix = [] := by unfold midT; rw [hk]; rfl
    rw [hm, List.nil_append] at h
    rw [hm, List.length_nil, Nat.add_zero] at hbe haft h44 ⊢
    obtain ⟨xs, h1, h2⟩ := one_read hF d (hf.s1 (.inr (.inr (.inr hk)))) hr hD h haft
    refine ⟨xs, h1, ?_⟩
    have e1 : f.k.toNat = 20 := by rw [hk]; rfl
    unfold pInner
    rw [e1, if_neg (by decide), if_neg (by decide), if_neg (by decide), if_neg (by decide), if_neg (by decide), h2, PR.and_ok, hw0 (by omega), (hi0 (by omega)).1, (hi0 (by omega)).2, hbe]
end Go.Proofs.YtdmdgkpjjpijdaaDoor
/- YtdmdgkpjjpijdaaDoor: plain: fields, notes and schemas that are printed are read again. -/
namespace Go.Proofs.YtdmdgkpjjpijdaaDoor
open Go Go.K
set_option maxRecDepth 100000
set_option linter.unusedVariables false
set_option linter.unusedSimpArgs false
theorem openK_iff {f : Fld} (hf : RdHere f) : (f.k.toNat < 14 ∧ f.k ≠ 14 ∧ ¬ openK f.k) ∨ (f.k = 14) ∨ (openK f.k ∧ f.k ≠ 14 ∧ ¬ f.k.toNat < 14) := by
  have h1 := hf.k1
  have h2 := hf.k2
  unfold openK
  omega
theorem digs_head {n : Int} (h0 : 0 ≤ n) (hn : n < 100) : ∃ c r, digs n = c :: r ∧ letB c = true := by
  obtain ⟨_, _, h3, h4⟩ := digs_all h0 hn
  obtain ⟨c, r, e⟩ := List.exists_cons_of_ne_nil h4
  exact ⟨c, r, e, h3 c (by rw [e]; exact .head _)⟩
theorem text_head {d : Nat} {l : List Fld} (hr : RdAll d l) (x : List UInt8) : ∃ c r, textM 0 l ++ (41 :: x) = c :: r ∧ blankB c = false := by
  cases l with
  | nil => exact ⟨41, x, by simp [textM], by decide⟩
  | cons g l =>
    cases d with
    | zero => cases hr
    | succ d =>
      obtain ⟨c, r, e2, e3⟩ := head_let (hr g (.head _)).1
      exact ⟨c, r ++ (restM l ++ (41 :: x)), by rw [textM_cons, e2]; simp, let_blank e3⟩
theorem inner_head {d : Nat} {f : Fld} (hf : RdHere f) (hr : RdAll d f.sub) (x : List UInt8) : ∃ c r, midT f.k f.wd f.id f.ix ++ (textM 0 f.sub ++ (41 :: x)) = c :: r ∧ blankB c = false := by
  unfold midT
  split
  · rename_i hk
    obtain ⟨c, r, e, e2⟩ := digs_head (hf.w1 (.inr hk)).1 (hf.w1 (.inr hk)).2
    exact ⟨c, r ++ ([44, 32] ++ (textM 0 f.sub ++ (41 :: x))), by rw [e]; simp, let_blank e2⟩
  · split
    · rename_i hk
      obtain ⟨c, r, e, e2⟩ := digs_head (hf.d1 hk).1.1 (hf.d1 hk).1.2
      exact ⟨c, r ++ ([44, 32] ++ (saysWord f.ix.toNat ++ [44, 32]) ++ (textM 0 f.sub ++ (41 :: x))), by rw [e]; simp, let_blank e2⟩
    · exact text_head hr x
theorem typed_read {s : List UInt8} {D : Nat} (hF : FieldRead s D) (d : Nat) {f : Fld} {q : Nat} {b : List UInt8} (hf : RdHere f) (hr : RdAll d f.sub) (hD : (textM 0 f.sub).length < D) (h : s.drop q = textG f ++ b) (hb : ∀ c, b.head? = some c → letB c = false) :
    ∃ xs : List Fz, xs.map (·.1) = f.sub ∧ pTyped s (pField s D) q = .ok ⟨f.k.toNat, f.wd.toNat, f.id.toNat, f.ix.toNat, xs⟩ (blP s (q + (textG f).length)) := by
  have hk1 := hf.k1
  have hk2 := hf.k2
  have hi0 : f.k ≠ 19 → f.id.toNat = 0 ∧ f.ix.toNat = 0 := fun hx => by rw [(hf.d2 hx).1, (hf.d2 hx).2]; exact ⟨rfl, rfl⟩
  rcases openK_iff hf with ⟨c1, c2, c3⟩ | c2 | ⟨c3, c2, c1⟩
  · have ht : textG f = saysWord f.k.toNat := by rw [textG_eq, if_neg c2, if_neg c3, List.append_nil]
    rw [ht] at h ⊢
    refine ⟨[], (hf.s3 c3).symm, ?_⟩
    have hw : f.wd.toNat = 0 := by rw [hf.w2 (by unfold openK at c3; omega)]; rfl
    unfold pTyped
    rw [kind_read (by omega) (by omega) rfl h hb, PR.and_ok, if_pos c1, hw, (hi0 (by unfold openK at c3; omega)).1, (hi0 (by unfold openK at c3; omega)).2]
  · have ht : textG f = saysWord f.k.toNat ++ ([40] ++ (digs f.wd ++ [41])) := by rw [textG_eq, if_pos c2]
    rw [ht] at h ⊢
    obtain ⟨w1, w2⟩ := hf.w1 (.inl c2)
    obtain ⟨c, r, hc1, hc2⟩ := digs_head w1 w2
    have hq0 : s.drop q = saysWord f.k.toNat ++ (40 :: (digs f.wd ++ (41 :: b))) := by rw [h]; simp
    have hq1 := drop_at hq0
    have hq2 := drop_one hq1
    have hq3 := drop_at hq2
    refine ⟨[], (hf.s3 (by unfold openK; omega)).symm, ?_⟩
    have e1 : f.k.toNat = 14 := by rw [c2]; rfl
    have hlen : q + (saysWord f.k.toNat ++ ([40] ++ (digs f.wd ++ [41]))).length = q + (saysWord f.k.toNat).length + 1 + (digs f.wd).length + 1 := by
      simp only [List.length_append, List.length_cons, List.length_nil]; omega
    unfold pTyped
    rw [hlen, kind_read (by omega) (by omega) rfl hq0 (fun c hc => by cases hc; decide), PR.and_ok, if_neg (by omega), bl_here hq1 (by decide), must_here hq1, PR.and_ok,
      bl_here (c := c) (b := r ++ (41 :: b)) (by rw [hq2, hc1]; rfl) (let_blank hc2)]
    unfold pInner
    rw [if_pos e1, num_read w1 w2 hq2 (fun c hc => by cases hc; decide), PR.and_ok, PR.and_ok, bl_here hq3 (by decide), must_here hq3, PR.and_ok, (hi0 (by omega)).1, (hi0 (by omega)).2]
  · have ht : textG f = saysWord f.k.toNat ++ ([40] ++ (midT f.k f.wd f.id f.ix ++ (textM 0 f.sub ++ [41]))) := by rw [textG_eq, if_neg c2, if_pos c3]
    rw [ht] at h ⊢
    have hq0 : s.drop q = saysWord f.k.toNat ++ (40 :: (midT f.k f.wd f.id f.ix ++ (textM 0 f.sub ++ (41 :: b)))) := by rw [h]; simp
    have hq1 := drop_at hq0
    have hq2 := drop_one hq1
    have hq3 := drop_at (drop_at hq2)
    obtain ⟨c, r, hc1, hc2⟩ := inner_head hf hr b
    obtain ⟨xs, h1, h2⟩ := inner_read hF d hf hr c3 hD hq2
    refine ⟨xs, h1, ?_⟩
    have hlen : q + (saysWord f.k.toNat ++ ([40] ++ (midT f.k f.wd f.id f.ix ++ (textM 0 f.sub ++ [41])))).length = q + (saysWord f.k.toNat).length + 1 + (midT f.k f.wd f.id f.ix).length + (textM 0 f.sub).length + 1 := by
      simp only [List.length_append, List.length_cons, List.length_nil]; omega
    unfold pTyped
    rw [hlen, kind_read (by omega) (by omega) rfl hq0 (fun c hc => by cases hc; decide), PR.and_ok, if_neg c1, bl_here hq1 (by decide), must_here hq1, PR.and_ok,
      bl_here (c := c) (b := r) (by rw [hq2, hc1]) hc2, h2, PR.and_ok, must_here hq3, PR.and_ok]
theorem sub_text (f : Fld) : (textM 0 f.sub).length ≤ (textG f).length ∨ f.sub = [] ∨ ¬ openK f.k := by
  by_cases h : openK f.k
  · refine .inl ?_
    rw [textG_eq, if_neg (by unfold openK at h; omega), if_pos h]
    simp only [List.length_append]; omega
  · exact .inr (.inr h)
theorem field_read (s : List UInt8) : ∀ D, FieldRead s D
  | 0 => fun d q f b hf hr hD h ha => by omega
  | D + 1 => by
    intro d q f b hf hr hD h ha
    have hfl := fieldT_len f
    have hq0 : s.drop q = f.nm ++ (32 :: (textG f ++ ((if f.nl then [63] else []) ++ b))) := by rw [h, fieldT]; simp
    have hq1 := drop_at hq0
    have hq2 := drop_one hq1
    have hq3 := drop_at hq2
    have hk1 := hf.k1
    have hk2 := hf.k2
    obtain ⟨v1, v2, v3⟩ := word_dec f.k.toNat (by omega) (by omega)
    obtain ⟨c2, r2, hc3⟩ := List.exists_cons_of_ne_nil v3
    have hc4 : letB c2 = true := List.all_eq_true.1 v2 c2 (by rw [hc3]; exact .head _)
    obtain ⟨r3, hc5⟩ : ∃ r3, textG f = c2 :: r3 := by rw [textG_eq, hc3]; exact ⟨_, rfl⟩
    have hbl1 : blP s (q + f.nm.length) = q + f.nm.length + 1 := bl_one (c := c2) (b := r3 ++ ((if f.nl then [63] else []) ++ b)) (by rw [hq1, hc5]; rfl) (let_blank hc4)
    have hD2 : (textM 0 f.sub).length < D := by
      rcases sub_text f with h5 | h5 | h5
      · have : 0 < f.nm.length := List.length_pos_iff.2 hf.n0
        omega
      · rw [h5]; simp [textM]; omega
      · rw [hf.s3 h5]; simp [textM]; omega
    obtain ⟨xs, h1, h2⟩ := typed_read (field_read s D) d hf hr hD2 hq2 (fun c hc => by
      cases hn : f.nl with
      | true => rw [hn] at hc; cases hc; decide
      | false => rw [hn] at hc; exact ha.hl c hc)
    have hw : ((f.wd.toNat : Nat) : Int) = f.wd := by
      by_cases hx : f.k = 14 ∨ f.k = 16
      · have := hf.w1 hx; omega
      · rw [hf.w2 hx]; rfl
    have hid : ((f.id.toNat : Nat) : Int) = f.id ∧ ((f.ix.toNat : Nat) : Int) = f.ix := by
      by_cases hx : f.k = 19
      · have := hf.d1 hx; omega
      · rw [(hf.d2 hx).1, (hf.d2 hx).2]; exact ⟨rfl, rfl⟩
    have hk : ((f.k.toNat : Nat) : Int) = f.k := by omega
    have hmk : ∀ q' : Nat, mkF f.nm f.nl ⟨f.k.toNat, f.wd.toNat, f.id.toNat, f.ix.toNat, xs⟩ q' = (f, Sp.mk q' (xs.map (·.2))) := fun q' => by
      unfold mkF
      rw [hk, hw, hid.1, hid.2, h1, fld_eta]
    rw [pField, word_read hq0 hf.n0 hf.nl (fun c hc => by cases hc; decide), PR.and_ok, hbl1, h2, PR.and_ok]
    cases hn : f.nl with
    | true =>
      rw [hn] at hq3 hfl hmk
      have hq4 : s.drop (q + f.nm.length + 1 + (textG f).length) = 63 :: b := hq3
      have e : q + (fieldT f).length = q + f.nm.length + 1 + (textG f).length + 1 := by simp at hfl; omega
      rw [bl_here hq4 (by decide), sign_here hq4, e]
      exact ⟨_, by rw [hmk]⟩
    | false =>
      rw [hn] at hq3 hfl hmk
      have e : q + (fieldT f).length = q + f.nm.length + 1 + (textG f).length := by simp at hfl; omega
      have ha1 := ha.h1
      rw [e] at ha1 ⊢
      rw [sign_not ha1]
      exact ⟨_, by rw [hmk]⟩
theorem hex_dec : ∀ n : Nat, n < 16 → hexV (hexB n) = some n := by decide +kernel
theorem esc_byte (c : UInt8) : UInt8.ofNat (16 * (c.toNat / 16) + c.toNat % 16) = c := by rw [Nat.div_add_mod]; exact UInt8.ofNat_toNat
theorem escB_pos (c : UInt8) : 0 < (escB c).length := by unfold escB; split <;> (try split) <;> simp
theorem escL_ge : ∀ t : List UInt8, t.length ≤ (escL t).length
  | [] => by simp
  | c :: t => by
    have h1 := escL_ge t
    have h2 := escB_pos c
    simp only [escL, List.flatMap_cons, List.length_append, List.length_cons] at h1 ⊢
    omega
theorem escL_cons (c : UInt8) (t : List UInt8) : escL (c :: t) = escB c ++ escL t := by simp [escL]
theorem rest_read {s : List UInt8} : ∀ (t : List UInt8) (m p : Nat) (b : List UInt8), t.length < m → s.drop p = escL t ++ (34 :: b) → pRest s m p = .ok t (p + (escL t).length + 1)
  | t, 0, p, b, hm, h => by omega
  | [], m + 1, p, b, hm, h => by
    have h' : s.drop p = 34 :: b := h
    rw [pRest, drop_get h']
    simp [escL]
  | c :: t, m + 1, p, b, hm, h => by
    rw [escL_cons, List.append_assoc] at h
    have h2 := drop_at h
    have ih := rest_read t m (p + (escB c).length) b (by simpa using hm) h2
    have e1 : p + (escL (c :: t)).length + 1 = p + (escB c).length + (escL t).length + 1 := by rw [escL_cons, List.length_append]; omega
    rw [e1]
    by_cases c1 : c = 34 ∨ c = 92
    · have eb : escB c = [92, c] := by unfold escB; rw [if_pos c1]
      rw [eb] at h ih ⊢
      have h3 : s.drop p = 92 :: c :: (escL t ++ (34 :: b)) := h
      have h4 := drop_one h3
      have he : pEsc s p = .ok c (p + 2) := by
        unfold pEsc
        rw [drop_get h4]
        simp only
        rw [if_pos c1]
      rw [pRest, drop_get h3]
      simp only
      rw [if_neg (by decide), if_pos trivial, he, PR.and_ok, show p + 2 = p + ([92, c] : List UInt8).length from rfl, ih, PR.and_ok]
    · by_cases c2 : 32 ≤ c.toNat ∧ c.toNat ≤ 126
      · have eb : escB c = [c] := by unfold escB; rw [if_neg c1, if_pos c2]
        rw [eb] at h ih ⊢
        have h3 : s.drop p = c :: (escL t ++ (34 :: b)) := h
        rw [pRest, drop_get h3]
        simp only
        rw [if_neg (fun e => c1 (.inl e)), if_neg (fun e => c1 (.inr e)), if_pos c2, show p + 1 = p + ([c] : List UInt8).length from rfl, ih, PR.and_ok]
      · have eb : escB c = [92, 120, hexB (c.toNat / 16), hexB (c.toNat % 16)] := by unfold escB; rw [if_neg c1, if_neg c2]
        rw [eb] at h ih ⊢
        have h3 : s.drop p = 92 :: 120 :: hexB (c.toNat / 16) :: hexB (c.toNat % 16) :: (escL t ++ (34 :: b)) := h
        have h4 := drop_one h3
        have h5 := drop_one h4
        have h6 := drop_one h5
        have hc := UInt8.toNat_lt c
        have he : pEsc s p = .ok c (p + 4) := by
          unfold pEsc
          rw [drop_get h4]
          simp only
          rw [if_neg (by decide), if_neg (by decide), drop_get h5]
          simp only
          rw [hex_dec _ (by omega)]
          simp only
          rw [drop_get h6]
          simp only
          rw [hex_dec _ (by omega)]
          simp only
          rw [esc_byte]
        rw [pRest, drop_get h3]
        simp only
        rw [if_neg (by decide), if_pos trivial, he, PR.and_ok, show p + 4 = p + ([92, 120, hexB (c.toNat / 16), hexB (c.toNat % 16)] : List UInt8).length from rfl, ih, PR.and_ok]
theorem quote_read {s t b : List UInt8} {q : Nat} (h : s.drop q = quoteP t ++ b) : pQuote s q = .ok t (blP s (q + (quoteP t).length)) := by
  have h1 : s.drop q = 34 :: (escL t ++ (34 :: b)) := by rw [h, quoteP]; simp
  have h2 := drop_one h1
  have hl : t.length < s.length + 1 := by
    have h5 := congrArg List.length h1
    rw [List.length_drop] at h5
    simp only [List.length_append, List.length_cons] at h5
    have := escL_ge t
    omega
  unfold pQuote
  rw [if_pos (drop_get h1), rest_read t _ _ b hl h2, PR.and_ok]
  congr 2
  rw [quoteP]
  simp only [List.length_append, List.length_cons, List.length_nil]
  omega
/-- The texts of the notes behind the first one. -/
def restN : List NoteT → List UInt8
  | [] => []
  | n :: l => 44 :: 32 :: (noteT n ++ restN l)
theorem notesM_rest (h : Bool) : ∀ (l : List NoteT) (i : Nat), notesM h (i + 1) l = restN l
  | [], i => rfl
  | n :: l, i => by
    rw [notesM, restN, notesM_rest h l (i + 1), sepN, if_pos (by omega)]
    simp
theorem restN_len : ∀ l : List NoteT, l.length ≤ (restN l).length
  | [] => by simp [restN]
  | f :: l => by
    have := restN_len l
    rw [restN]
    simp only [List.length_cons, List.length_append]
    omega
theorem note_head (n : NoteT) : ∃ r, noteT n = 34 :: r := ⟨_, by rw [noteT, quoteP]; rfl⟩
theorem note_read {s b : List UInt8} {q : Nat} {n : NoteT} (h : s.drop q = noteT n ++ b) : (pQuote s q).and (fun k r => (pQuote s r).and fun t r => PR.ok (k, t) r) = .ok n (blP s (q + (noteT n).length)) := by
  have h1 : s.drop q = quoteP n.1 ++ (32 :: (quoteP n.2 ++ b)) := by rw [h, noteT]; simp
  have h2 := drop_at h1
  have h3 := drop_one h2
  have h4 : blP s (q + (quoteP n.1).length) = q + (quoteP n.1).length + 1 := bl_one (c := 34) (b := escL n.2 ++ [34] ++ b) (by rw [h2, quoteP]; simp) (by decide)
  rw [quote_read h1, PR.and_ok, h4, quote_read h3, PR.and_ok]
  congr 2
  rw [noteT]
  simp only [List.length_append, List.length_cons, List.length_nil]
  omega
theorem notes_read {s : List UInt8} : ∀ (l : List NoteT) (n : NoteT) (m q : Nat), l.length < m → s.drop q = noteT n ++ restN l → pNotes s m q = .ok (n :: l) (blP s (q + (noteT n ++ restN l).length))
  | l, n, 0, q, hm, h => by omega
  | [], n, m + 1, q, hm, h => by
    have h1 := note_read (b := []) (by simpa [restN] using h)
    have h2 : s.drop (q + (noteT n).length) = [] := drop_at (b := []) (by simpa [restN] using h)
    have h3 : pNotes s (m + 1) q = ((pQuote s q).and (fun k r => (pQuote s r).and fun t r => PR.ok (k, t) r)).and fun x r => match pSign s 44 r with
        | none => .ok [x] r
        | some r2 => (pNotes s m r2).and fun l r3 => .ok (x :: l) r3 := by
      rw [pNotes, PR.and_and]
      congr 1
      funext k r
      rw [PR.and_and]
      rfl
    rw [h3, h1, PR.and_ok, bl_nil h2, sign_not (by rw [drop_none h2]; simp)]
    simp only [restN, List.append_nil]
    rw [bl_nil h2]
  | x :: l, n, m + 1, q, hm, h => by
    have h0 : s.drop q = noteT n ++ (44 :: 32 :: (noteT x ++ restN l)) := h
    have h1 := note_read h0
    have hq1 := drop_at h0
    have hq2 := drop_one hq1
    have hq3 := drop_one hq2
    obtain ⟨r, hr⟩ := note_head x
    have h4 : blP s (q + (noteT n).length + 1) = q + (noteT n).length + 1 + 1 := bl_one (c := 34) (b := r ++ restN l) (by rw [hq2, hr]; rfl) (by decide)
    have h3 : pNotes s (m + 1) q = ((pQuote s q).and (fun k r => (pQuote s r).and fun t r => PR.ok (k, t) r)).and fun x r => match pSign s 44 r with
        | none => .ok [x] r
        | some r2 => (pNotes s m r2).and fun l r3 => .ok (x :: l) r3 := by
      rw [pNotes, PR.and_and]
      congr 1
      funext k r
      rw [PR.and_and]
      rfl
    have ih := notes_read l x m _ (by simpa using hm) hq3
    rw [h3, h1, PR.and_ok, bl_here hq1 (by decide), sign_here hq1, h4]
    simp only
    rw [ih, PR.and_ok]
    congr 2
    rw [restN]
    simp only [List.length_append, List.length_cons]
    omega
/-- A schema that is printed is read again. -/
theorem schema_read (l : List Fld) (nt : List NoteT) (hr : RdAll 64 l) : ∃ xs : List Fz, xs.map (·.1) = l ∧ pSchema (outT l nt) = .ok (xs, nt) (outT l nt).length := by
  obtain ⟨s, hs⟩ : ∃ s, s = outT l nt := ⟨_, rfl⟩
  rw [← hs]
  have hnil : s.drop s.length = [] := List.drop_length
  have hend : blP s s.length = s.length := bl_nil hnil
  have hno : ∀ c : UInt8, s[s.length]? ≠ some c := fun c => by rw [drop_none hnil]; simp
  have hpe : ∀ xs : List Fz, pEnd s (xs, nt) s.length = .ok (xs, nt) s.length := fun xs => by unfold pEnd; rw [if_neg (by omega)]
  -- the notes behind the fields
  have hnotes : ∀ (n : NoteT) (m : List NoteT) (q : Nat), nt = n :: m → s.drop q = 124 :: 32 :: (noteT n ++ restN m) → pTail s q = .ok nt s.length := by
    intro n m q e h
    have h1 := drop_one h
    have h2 := drop_one h1
    obtain ⟨r, hr⟩ := note_head n
    have h3 : blP s (q + 1) = q + 1 + 1 := bl_one (c := 34) (b := r ++ restN m) (by rw [h1, hr]; rfl) (by decide)
    have hl := congrArg List.length h2
    rw [List.length_drop] at hl
    have hl2 := hl
    simp only [List.length_append] at hl2
    have := restN_len m
    have hq : q + 1 + 1 ≤ s.length := by
      have h5 := congrArg List.length h
      rw [List.length_drop] at h5
      simp only [List.length_cons] at h5
      omega
    unfold pTail
    rw [sign_here h, h3]
    simp only
    rw [notes_read m n _ _ (by omega) h2, ← hl, Nat.add_sub_cancel' hq, hend, e]
  match l, nt, hs with
  | [], [], hs =>
    have hs0 : s = [] := by rw [hs]; rfl
    subst hs0
    exact ⟨[], rfl, rfl⟩
  | [], n :: m, hs =>
    have h0 : s.drop 0 = 124 :: 32 :: (noteT n ++ restN m) := by
      rw [List.drop_zero, hs, outT, notesM, notesM_rest]
      simp [textM, hasF, sepN]
    refine ⟨[], rfl, ?_⟩
    have hb : blP s 0 = 0 := bl_here h0 (by decide)
    unfold pSchema
    rw [hb]
    have hh : pHead s 0 = .ok [] 0 := by
      unfold pHead
      rw [if_neg]
      intro h
      exact h.2 (drop_get h0)
    rw [hh, PR.and_ok, hnotes n m 0 rfl h0, PR.and_ok]
    exact hpe []
  | f :: l, nt, hs =>
    have hfl := head_let (hr f (.head _)).1
    obtain ⟨c, r, hc1, hc2⟩ := hfl
    obtain ⟨b, hb⟩ : ∃ b, b = notesM true 0 nt := ⟨_, rfl⟩
    have h0 : s.drop 0 = fieldT f ++ (restM l ++ b) := by
      rw [List.drop_zero, hs, outT, textM_cons, hb]
      simp [hasF]
    have hb0 : blP s 0 = 0 := bl_here (c := c) (b := r ++ (restM l ++ b)) (by rw [h0, hc1]; rfl) (let_blank hc2)
    have hlen : s.length = (fieldT f ++ restM l).length + b.length := by
      have h5 := congrArg List.length h0
      rw [List.drop_zero] at h5
      rw [h5]
      simp only [List.length_append]
      omega
    have hq1 : s.drop (0 + (fieldT f ++ restM l).length) = b := drop_at (by rw [h0, List.append_assoc])
    have hll : l.length < s.length + 1 := by
      have := restM_len l
      simp only [List.length_append] at hlen
      omega
    have hpos : 0 < s.length := by
      have : 0 < (fieldT f).length := by rw [hc1]; simp
      simp only [List.length_append] at hlen
      omega
    have hhead : pHead s 0 = pFields s 0 := by
      unfold pHead
      rw [if_pos]
      refine ⟨hpos, ?_⟩
      rw [drop_get (c := c) (b := r ++ (restM l ++ b)) (by rw [h0, hc1]; rfl)]
      intro e
      exact let_not hc2 (by decide) (Option.some.inj e)
    unfold pSchema
    rw [hb0, hhead]
    unfold pFields
    match nt, hb, hnotes, hpe with
    | [], hb, hnotes, hpe =>
      have hb' : b = [] := hb
      subst hb'
      rw [List.length_nil, Nat.add_zero] at hlen
      have e : 0 + (fieldT f ++ restM l).length = s.length := by omega
      obtain ⟨xs, h1, h2⟩ := many_read (field_read s (s.length + 1)) 63 l f (s.length + 1) 0 [] hr (by omega) hll h0 ⟨by rw [e]; exact hnil, fun c hc => (by cases hc), by rw [e, hend]; exact hno _⟩ (by rw [e, hend]; exact hno _)
      refine ⟨xs, h1, ?_⟩
      rw [h2, PR.and_ok, e, hend]
      have ht : pTail s s.length = .ok [] s.length := by unfold pTail; rw [sign_not (hno _)]
      rw [ht, PR.and_ok]
      exact hpe xs
    | n :: m, hb, hnotes, hpe =>
      have hb' : b = 32 :: 124 :: 32 :: (noteT n ++ restN m) := by rw [hb, notesM, notesM_rest]; simp [sepN]
      rw [hb'] at hq1
      have hq2 := drop_one hq1
      have hbl := bl_one hq1 (by decide)
      obtain ⟨xs, h1, h2⟩ := many_read (field_read s (s.length + 1)) 63 l f (s.length + 1) 0 b hr (by omega) hll h0 ⟨by rw [hb']; exact hq1, fun c hc => by rw [hb'] at hc; cases hc; decide, by rw [hbl, drop_get hq2]; decide⟩ (by rw [hbl, drop_get hq2]; decide)
      refine ⟨xs, h1, ?_⟩
      rw [h2, PR.and_ok, hbl, hnotes n m _ rfl hq2, PR.and_ok]
      exact hpe xs
/-- A field that is printed is read again. -/
theorem fieldT_read (f : Fld) (hf : RdHere f) (hr : RdAll 63 f.sub) : ∃ sp, pOne (fieldT f) = .ok (f, sp) (fieldT f).length := by
  obtain ⟨s, hs⟩ : ∃ s, s = fieldT f := ⟨_, rfl⟩
  rw [← hs]
  have hnil : s.drop s.length = [] := List.drop_length
  have hend : blP s s.length = s.length := bl_nil hnil
  have hno : ∀ c : UInt8, s[s.length]? ≠ some c := fun c => by rw [drop_none hnil]; simp
  obtain ⟨c, r, hc1, hc2⟩ := head_let hf
  have h0 : s.drop 0 = fieldT f ++ [] := by rw [List.drop_zero, hs, List.append_nil]
  have hb0 : blP s 0 = 0 := bl_here (c := c) (b := r) (by rw [List.drop_zero, hs, hc1]) (let_blank hc2)
  have e : 0 + (fieldT f).length = s.length := by rw [hs]; omega
  obtain ⟨sp, h1⟩ := field_read s (s.length + 1) 63 0 f [] hf hr (by rw [← hs]; omega) h0 ⟨by rw [e]; exact hnil, fun c hc => (by cases hc), by rw [e, hend]; exact hno _⟩
  refine ⟨sp, ?_⟩
  unfold pOne
  rw [hb0, h1, PR.and_ok, e, hend]
  unfold pEnd
  rw [if_neg (by omega)]
end Go.Proofs.YtdmdgkpjjpijdaaDoor
/- YtdmdgkpjjpijdaaDoor: plain: a schema that may be is read as it is printed; its text is short. -/
namespace Go.Proofs.YtdmdgkpjjpijdaaDoor
open Go Go.K
set_option maxRecDepth 100000
set_option linter.unusedVariables false
set_option linter.unusedSimpArgs false
theorem rdHere_of {pl : Nat} {ah : List Fld} {f : Fld} {ind : Bool} {k : Int} {S : List Int} (h1 : wrongN pl ah f ind k S = 0) : RdHere f ∧ pl ≤ 64 := by
  unfold wrongN at h1
  by_cases q1 : 64 < pl
  · rw [if_pos q1] at h1; cases h1
  rw [if_neg q1] at h1
  by_cases q2 : (256 : Int) ≤ k
  · rw [if_pos q2] at h1; cases h1
  rw [if_neg q2] at h1
  by_cases q3 : ¬ isName f.nm
  · rw [if_pos q3] at h1; cases h1
  rw [if_neg q3] at h1
  by_cases q4 : ah.any (fun g => decide (g.nm = f.nm)) = true
  · rw [if_pos q4] at h1; cases h1
  rw [if_neg q4] at h1
  by_cases q5 : ¬ shapedF f
  · rw [if_pos q5] at h1; cases h1
  obtain ⟨n1, n2, n3⟩ := Decidable.not_not.1 q3
  obtain ⟨⟨s1, s2⟩, s3, s4, s5, s6⟩ := Decidable.not_not.1 q5
  refine ⟨⟨n2, fun c hc => ?_, s1, s2, fun hk => ?_, fun hk => ?_, fun hk => ?_, fun hk => ?_, fun hk => ?_, fun hk => ?_, fun hk => ?_⟩, by omega⟩
  · obtain ⟨j, hj⟩ := List.mem_iff_getElem?.1 hc
    have hjl := (List.getElem?_eq_some_iff.1 hj).1
    have h2 := (n1 j hjl).1
    rw [List.getD_eq_getElem?_getD, hj] at h2
    exact decide_eq_true h2
  · unfold wideP widthK at s3
    rcases hk with hk | hk
    · rw [hk] at s3; simp at s3; omega
    · rw [hk] at s3; simp at s3; omega
  · unfold wideP widthK at s3
    rw [if_neg (by omega : ¬ f.k = 14), if_neg (by omega : ¬ f.k = 16), if_neg (by omega)] at s3
    exact s3
  · unfold toldP at s4
    rw [if_pos hk] at s4
    omega
  · unfold toldP at s4
    rw [if_neg hk] at s4
    exact s4
  · unfold leastK at s5
    unfold mostK at s6
    rcases hk with hk | hk | hk | hk
    all_goals (rw [hk] at s5 s6; simp at s5 s6; omega)
  · unfold leastK at s5
    rw [hk] at s5
    simp at s5
    intro e
    rw [e] at s5
    simp at s5
  · unfold openK at hk
    unfold mostK at s6
    rw [if_neg (by omega), if_neg (by omega)] at s6
    exact List.eq_nil_of_length_eq_zero (by omega)
theorem rdAll_of : ∀ (d : Nat) (path : List Nat) (ind : Bool) (l : List Fld), (∀ x ∈ nd (d + 1) path ind l, RdHere x.f ∧ x.path.length ≤ path.length + d) → RdAll d l
  | 0, path, ind, [], h => rfl
  | 0, path, ind, f :: l, h => by
    have := (h ⟨path ++ [0], (f :: l).take 0, f, ind⟩ (by
      rw [nd]
      exact List.mem_flatMap.2 ⟨(f, 0), List.mem_iff_getElem?.2 ⟨0, by simp⟩, .head _⟩)).2
    simp only [List.length_append, List.length_cons, List.length_nil] at this
    omega
  | d + 1, path, ind, l, h => by
    intro f hf
    obtain ⟨i, hi⟩ := List.mem_iff_getElem?.1 hf
    have hm : (f, i) ∈ l.zipIdx := List.mem_iff_getElem?.2 ⟨i, by simp [hi]⟩
    refine ⟨(h ⟨path ++ [i], l.take i, f, ind⟩ (by
      rw [nd]
      exact List.mem_flatMap.2 ⟨(f, i), hm, .head _⟩)).1, rdAll_of d (path ++ [i]) (ind || f.k == 19) f.sub fun x hx => ?_⟩
    have := h x (by
      rw [nd]
      exact List.mem_flatMap.2 ⟨(f, i), hm, .tail _ hx⟩)
    refine ⟨this.1, ?_⟩
    have := this.2
    simp only [List.length_append, List.length_cons, List.length_nil] at this ⊢
    omega
theorem may_rdAll {l : List Fld} {nt : List NoteT} (h : mayP l nt = true) : RdAll 64 l := by
  refine rdAll_of 64 [] false l (fun x hx => ?_)
  obtain ⟨i, hi⟩ := List.mem_iff_getElem?.1 hx
  have h1 := (checkP_zero h).2.2.2 i
  unfold wrongAt at h1
  rw [hi] at h1
  simp only at h1
  have h2 := rdHere_of h1
  exact ⟨h2.1, by simpa using h2.2⟩
theorem saysWord_7 (n : Nat) : (saysWord n).length ≤ 7 := by
  rcases Nat.lt_or_ge n 21 with h | h
  · have : ∀ m : Fin 21, (saysWord m).length ≤ 7 := by decide +kernel
    exact this ⟨n, h⟩
  · unfold saysWord
    rw [List.getD_eq_getElem?_getD, List.getElem?_eq_none (by simpa using h)]
    simp
theorem textG_le2 (f : Fld) : (textG f).length ≤ 24 + (textM 0 f.sub).length := by
  have h1 := saysWord_7 f.k.toNat
  have h2 := digs_le f.wd
  have h3 := digs_le f.id
  have h5 := saysWord_7 f.ix.toNat
  have h4 : (midT f.k f.wd f.id f.ix).length ≤ 13 := by
    unfold midT
    split
    · simp only [List.length_append, List.length_cons, List.length_nil]; omega
    · split
      · simp only [List.length_append, List.length_cons, List.length_nil]; omega
      · simp
  rw [textG_eq, List.length_append]
  split
  · simp only [List.length_append, List.length_cons, List.length_nil]; omega
  · split
    · simp only [List.length_append, List.length_cons, List.length_nil]; omega
    · simp only [List.length_nil]; omega
theorem text_bound2 : ∀ (d : Nat) (l : List Fld), Dp d l → (∀ q ∈ keysL d l, goodK q) → ∀ i, (textM i l).length ≤ 80 * (keysL d l).length
  | 0, l, h, _ => by cases h; exact fun i => by simp [textM]
  | d + 1, [], _, _ => fun i => by simp [textM]
  | d + 1, f :: l, h, hg => by
    have hk : keysL (d + 1) (f :: l) = keyF f :: (keysL d f.sub ++ keysL (d + 1) l) := by rw [keysL, keysL, List.flatMap_cons]; rfl
    rw [hk] at hg
    have g1 := (hg _ (.head _)).1
    have a2 := text_bound2 d f.sub (h f (.head _)) fun q hq => hg q (.tail _ (List.mem_append_left _ hq))
    have b2 := text_bound2 (d + 1) l (fun x hx => h x (.tail _ hx)) fun q hq => hg q (.tail _ (List.mem_append_right _ hq))
    intro i
    have c1 := a2 0
    have c2 := b2 (i + 1)
    have c3 := textG_le2 f
    have g1' : f.nm.length ≤ 48 := g1
    have c4 : (if i = 0 then ([] : List UInt8) else [44, 32]).length ≤ 2 := by split <;> simp
    have c5 : (if f.nl then ([63] : List UInt8) else []).length ≤ 1 := by split <;> simp
    rw [hk, textM]
    simp only [List.length_append, List.length_cons] at c4 c5 ⊢
    omega
theorem out_short {l : List Fld} {nt : List NoteT} (h : mayP l nt = true) : (outT l nt).length ≤ 65536 := by
  have h2 := text_bound2 64 l (may_dp h) (good_may h) 0
  have h3 := keys_few h
  obtain ⟨h5, h4⟩ := notes_may h
  have h6 := notes_len (hasF l) nt 0 h4
  unfold outT
  simp only [List.length_append]
  omega
theorem field_short {f : Fld} (h : mayP [f] [] = true) : (fieldT f).length ≤ 65536 := by
  have h1 := out_short h
  have h2 : outT [f] [] = fieldT f := by
    unfold outT
    rw [textM_cons]
    simp [restM, notesM]
  rwa [h2] at h1
/-- A schema that may be is read as it is printed. -/
theorem print_read {l : List Fld} {nt : List NoteT} (h : mayP l nt = true) : ∃ xs : List Fz, xs.map (·.1) = l ∧ pSchema (outT l nt) = .ok (xs, nt) (outT l nt).length := schema_read l nt (may_rdAll h)
theorem print_readF {f : Fld} (h : mayP [f] [] = true) : ∃ sp, pOne (fieldT f) = .ok (f, sp) (fieldT f).length := fieldT_read f (may_rdAll h f (.head _)).1 (may_rdAll h f (.head _)).2
end Go.Proofs.YtdmdgkpjjpijdaaDoor
