/- YtdmdgkpjjpijdaaDoor: plain law: schemas that may be have small numbers and a text of bounded length. -/
import Derived.Test.YtdmdgkpjjpijdaaDoorW30
import Derived.Test.YtdmdgkpjjpijdaaDoorW51
import Derived.Test.YtdmdgkpjjpijdaaDoorW14
namespace Go.Proofs.YtdmdgkpjjpijdaaDoor
open Go Go.K
set_option linter.unusedVariables false
set_option linter.unusedSimpArgs false
def goodK (q : Key) : Prop := q.nm.length ≤ 48 ∧ 1 ≤ q.k ∧ q.k ≤ 20 ∧ (q.k = 14 ∨ q.k = 16 → 0 ≤ q.wd ∧ q.wd < 100) ∧ (q.k = 19 → (0 ≤ q.id ∧ q.id < 100) ∧ 1 ≤ q.ix ∧ q.ix ≤ 13)
theorem textG_le (f : Fld) : (textG f).length ≤ 210 + (textM 0 f.sub).length := by
  have h1 := saysWord_le f.k.toNat
  have h2 := digs_le f.wd
  have h3 := digs_le f.id
  have h5 : (saysWord f.ix.toNat).length ≤ 100 := saysWord_le _
  have h4 : (midT f.k f.wd f.id f.ix).length ≤ 106 := by
    unfold midT
    split
    · simp only [List.length_append, List.length_cons, List.length_nil]; omega
    · split
      · simp only [List.length_append, List.length_cons, List.length_nil]; omega
      · simp
  rw [textG_eq, List.length_append]
  split
  · simp only [List.length_append, List.length_cons, List.length_nil]; omega
  · split
    · simp only [List.length_append, List.length_cons, List.length_nil]; omega
    · simp only [List.length_nil]; omega
theorem text_bound : ∀ (d : Nat) (l : List Fld), Dp d l → (∀ q ∈ keysL d l, goodK q) → okM l = true ∧ ∀ i, (textM i l).length ≤ 300 * (keysL d l).length
  | 0, l, h, _ => by cases h; exact ⟨by simp [okM], fun i => by simp [textM]⟩
  | d + 1, [], _, _ => ⟨by simp [okM], fun i => by simp [textM]⟩
  | d + 1, f :: l, h, hg => by
    have hk : keysL (d + 1) (f :: l) = keyF f :: (keysL d f.sub ++ keysL (d + 1) l) := by rw [keysL, keysL, List.flatMap_cons]; rfl
    rw [hk] at hg
    obtain ⟨g1, g2, g3, g4, g5⟩ := hg _ (.head _)
    obtain ⟨a1, a2⟩ := text_bound d f.sub (h f (.head _)) fun q hq => hg q (.tail _ (List.mem_append_left _ hq))
    obtain ⟨b1, b2⟩ := text_bound (d + 1) l (fun x hx => h x (.tail _ hx)) fun q hq => hg q (.tail _ (List.mem_append_right _ hq))
    refine ⟨?_, fun i => ?_⟩
    · rw [okM, b1, (okG_iff f).2 ⟨g2, g3, g4, g5, a1⟩]; rfl
    · have c1 := a2 0
      have c2 := b2 (i + 1)
      have c3 := textG_le f
      have g1' : f.nm.length ≤ 48 := g1
      have c4 : (if i = 0 then ([] : List UInt8) else [44, 32]).length ≤ 2 := by split <;> simp
      have c5 : (if f.nl then ([63] : List UInt8) else []).length ≤ 1 := by split <;> simp
      rw [hk, textM]
      simp only [List.length_append, List.length_cons] at c4 c5 ⊢
      omega
theorem good_may {l : List Fld} {nt : List NoteT} (h : mayP l nt = true) : ∀ q ∈ keysL 64 l, goodK q := by
  intro q hq
  rw [← keys_dp 64 l (may_dp h), ← keys_nd 65 [] false l] at hq
  obtain ⟨x, hx, rfl⟩ := List.mem_map.1 hq
  obtain ⟨i, hi⟩ := List.mem_iff_getElem?.1 hx
  have h1 := (checkP_zero h).2.2.2 i
  unfold wrongAt at h1
  rw [hi] at h1
  simp only at h1
  unfold wrongN at h1
  by_cases q1 : 64 < x.path.length
  · rw [if_pos q1] at h1; cases h1
  rw [if_neg q1] at h1
  by_cases q2 : (256 : Int) ≤ i
  · rw [if_pos q2] at h1; cases h1
  rw [if_neg q2] at h1
  by_cases q3 : ¬ isName x.f.nm
  · rw [if_pos q3] at h1; cases h1
  rw [if_neg q3] at h1
  by_cases q4 : x.ah.any (fun g => decide (g.nm = x.f.nm)) = true
  · rw [if_pos q4] at h1; cases h1
  rw [if_neg q4] at h1
  by_cases q5 : ¬ shapedF x.f
  · rw [if_pos q5] at h1; cases h1
  have hn : x.f.nm.length ≤ 48 := (Decidable.not_not.1 q3).2.2
  obtain ⟨⟨s1, s2⟩, s3, s4, _⟩ := Decidable.not_not.1 q5
  refine ⟨hn, s1, s2, fun hk => ?_, fun hk => ?_⟩
  · have hk' : x.f.k = 14 ∨ x.f.k = 16 := hk
    show 0 ≤ x.f.wd ∧ x.f.wd < 100
    unfold wideP widthK at s3
    rcases hk' with hk' | hk'
    · rw [hk'] at s3; simp at s3; omega
    · rw [hk'] at s3; simp at s3; omega
  · have hk' : x.f.k = 19 := hk
    show (0 ≤ x.f.id ∧ x.f.id < 100) ∧ 1 ≤ x.f.ix ∧ x.f.ix ≤ 13
    unfold toldP at s4
    rw [if_pos hk'] at s4
    omega
theorem keys_few {l : List Fld} {nt : List NoteT} (h : mayP l nt = true) : (keysL 64 l).length ≤ 256 := by
  have h1 := few_nodes h
  have h2 := congrArg List.length (keys_nd 65 [] false l)
  rw [List.length_map] at h2
  rw [← keys_dp 64 l (may_dp h), ← h2]
  exact h1
theorem text_may {l : List Fld} {nt : List NoteT} (h : mayP l nt = true) : okM l = true ∧ (textM 0 l).length ≤ 76800 := by
  obtain ⟨h1, h2⟩ := text_bound 64 l (may_dp h) (good_may h)
  have h3 := keys_few h
  have h4 := h2 0
  exact ⟨h1, by omega⟩
theorem notes_len (h : Bool) : ∀ (nt : List NoteT) (i : Nat), (∀ n ∈ nt, n.1.length ≤ 256 ∧ n.2.length ≤ 256) → (notesM h i nt).length ≤ 2100 * nt.length
  | [], i, _ => by simp [notesM]
  | n :: nt, i, hn => by
    have h1 := notes_len h nt (i + 1) fun m hm => hn m (.tail _ hm)
    obtain ⟨h2, h3⟩ := hn n (.head _)
    have e1 := escL_le n.1
    have e2 := escL_le n.2
    have q1 := quoteP_len n.1
    have q2 := quoteP_len n.2
    have hs : (sepN h i).length ≤ 3 := by unfold sepN; split <;> (try split) <;> simp
    rw [notesM]
    unfold noteT
    simp only [List.length_append, List.length_cons, List.length_nil]
    omega
theorem notes_may {l : List Fld} {nt : List NoteT} (h : mayP l nt = true) : nt.length ≤ 16 ∧ ∀ n ∈ nt, n.1.length ≤ 256 ∧ n.2.length ≤ 256 := by
  obtain ⟨_, h2, h3, _⟩ := checkP_zero h
  refine ⟨h2, fun n hn => ?_⟩
  rw [List.findIdx?_eq_none_iff] at h3
  have := h3 n hn
  simp only [longNote, Bool.or_eq_false_iff, decide_eq_false_iff_not] at this
  omega
theorem print_may {l : List Fld} {nt : List NoteT} (h : mayP l nt = true) : okM l = true ∧ (outT l nt).length ≤ 17592186044416 ∧ ∀ n ∈ nt, n.1.length ≤ 1000 ∧ n.2.length ≤ 1000 := by
  obtain ⟨h1, h2⟩ := text_may h
  obtain ⟨h3, h4⟩ := notes_may h
  have h5 := notes_len (hasF l) nt 0 h4
  refine ⟨h1, by unfold outT; simp only [List.length_append]; omega, fun n hn => ?_⟩
  have := h4 n hn
  omega
theorem printF_may {f : Fld} (h : mayP [f] [] = true) : okM [f] = true ∧ (fieldT f).length ≤ 17592186044416 := by
  obtain ⟨h1, h2⟩ := text_may h
  rw [fieldT_eq] at h2
  exact ⟨h1, by omega⟩
end Go.Proofs.YtdmdgkpjjpijdaaDoor
