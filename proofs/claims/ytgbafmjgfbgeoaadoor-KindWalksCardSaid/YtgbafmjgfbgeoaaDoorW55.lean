/- YtgbafmjgfbgeoaaDoor: plain law: in schemas that may be all lists are short. -/
import Derived.Test.YtgbafmjgfbgeoaaDoorW30
namespace Go.Proofs.YtgbafmjgfbgeoaaDoor
open Go Go.K
set_option linter.unusedVariables false
set_option linter.unusedSimpArgs false
mutual
def okS : Fld → Bool
  | .mk _ _ _ _ _ _ sub => decide (sub.length ≤ 32) && okT sub
def okT : List Fld → Bool
  | [] => true
  | f :: l => okS f && okT l
end
theorem okS_iff (f : Fld) : okS f = true ↔ f.sub.length ≤ 32 ∧ okT f.sub = true := by
  cases f
  simp only [okS, Bool.and_eq_true, decide_eq_true_eq, Fld.sub]
theorem okT_get : ∀ {l : List Fld} {i : Nat} {f : Fld}, okT l = true → l[i]? = some f → okS f = true
  | [], i, f, _, h => by simp at h
  | g :: l, 0, f, h1, h2 => by simp only [okT, Bool.and_eq_true] at h1; simp at h2; rw [← h2]; exact h1.1
  | g :: l, i + 1, f, h1, h2 => by simp only [okT, Bool.and_eq_true] at h1; exact okT_get h1.2 (by simpa using h2)
theorem node_may {l : List Fld} {nt : List NoteT} (h : mayP l nt = true) : ∀ x ∈ nd 65 [] false l, isName x.f.nm ∧ shapedF x.f := by
  intro x hx
  obtain ⟨i, hi⟩ := List.mem_iff_getElem?.1 hx
  have h1 := (checkP_zero h).2.2.2 i
  unfold wrongAt at h1
  rw [hi] at h1
  simp only at h1
  unfold wrongN at h1
  by_cases q1 : 64 < x.path.length
  · rw [if_pos q1] at h1; cases h1
  rw [if_neg q1] at h1
  by_cases q2 : (256 : Int) ≤ i
  · rw [if_pos q2] at h1; cases h1
  rw [if_neg q2] at h1
  by_cases q3 : ¬ isName x.f.nm
  · rw [if_pos q3] at h1; cases h1
  rw [if_neg q3] at h1
  by_cases q4 : x.ah.any (fun g => decide (g.nm = x.f.nm)) = true
  · rw [if_pos q4] at h1; cases h1
  rw [if_neg q4] at h1
  by_cases q5 : ¬ shapedF x.f
  · rw [if_pos q5] at h1; cases h1
  exact ⟨Decidable.not_not.1 q3, Decidable.not_not.1 q5⟩
theorem mostK_le (k : Int) : mostK k ≤ 32 := by
  unfold mostK
  split
  · decide
  · split <;> decide
theorem small_keys : ∀ (d : Nat) (l : List Fld), Dp d l → (∀ q ∈ keysL d l, q.n ≤ 32) → okT l = true
  | 0, l, h, _ => by cases h; simp [okT]
  | d + 1, [], _, _ => by simp [okT]
  | d + 1, f :: l, h, hg => by
    have hk : keysL (d + 1) (f :: l) = keyF f :: (keysL d f.sub ++ keysL (d + 1) l) := by rw [keysL, keysL, List.flatMap_cons]; rfl
    rw [hk] at hg
    have g1 : f.sub.length ≤ 32 := hg _ (.head _)
    have a1 := small_keys d f.sub (h f (.head _)) fun q hq => hg q (.tail _ (List.mem_append_left _ hq))
    have b1 := small_keys (d + 1) l (fun x hx => h x (.tail _ hx)) fun q hq => hg q (.tail _ (List.mem_append_right _ hq))
    rw [okT, b1, (okS_iff f).2 ⟨g1, a1⟩]; rfl
theorem small_may {l : List Fld} {nt : List NoteT} (h : mayP l nt = true) : okT l = true ∧ l.length ≤ 32 := by
  refine ⟨small_keys 64 l (may_dp h) fun q hq => ?_, (checkP_zero h).1⟩
  rw [← keys_dp 64 l (may_dp h), ← keys_nd 65 [] false l] at hq
  obtain ⟨x, hx, rfl⟩ := List.mem_map.1 hq
  obtain ⟨_, _, _, _, _, h5⟩ := node_may h x hx
  have := mostK_le x.f.k
  show x.f.sub.length ≤ 32
  omega
end Go.Proofs.YtgbafmjgfbgeoaaDoor
