/- YtilejcofleeeiaaGreatDoor: plain: what is read was written, and fits; the places of what can't be read; there and back. -/
import Derived.Test.YtilejcofleeeiaaGreatDoorW214
namespace Go.Proofs.YtilejcofleeeiaaGreatDoor
open Go Go.K
set_option maxRecDepth 100000
set_option linter.unusedVariables false
set_option linter.unusedSimpArgs false
/-- What a reader yields was written there, fits, and is of machine numbers. -/
def Wrote (s : List UInt8) (d : Nat) (g : Fld) (R : Nat → PV Vl) : Prop := ∀ (q : Nat) (v : Vl) (r : Nat), R q = .ok v r → s.drop q = showV d g v ++ s.drop r ∧ fitD d g v = true ∧ ∀ n, rngD n v
theorem items_wrote (s : List UInt8) (d : Nat) (f g : Fld) (R : Nat → PV Vl) (hk : f.k = 15 ∨ f.k = 16) (hg : f.sub[0]? = some g) (hR : Wrote s d g R) : ∀ (m i q : Nat) (l : List Vl) (r : Nat), itemsV s f.k f.wd R m i q = .ok l r → (f.k = 15 → i ≤ 4096) →
    s.drop q = itemsT f (showV d) i l ++ 93 :: s.drop r ∧ (f.k = 16 → ((i + l.length : Nat) : Int) = f.wd) ∧ (f.k = 15 → i + l.length ≤ 4096) ∧ ∀ v ∈ l, fitD d g v = true ∧ ∀ n, rngD n v
  | 0, i, q, l, r, h, hi => by cases h
  | m + 1, i, q, l, r, h, hi => by
    have h17 : ¬ f.k = 17 := by omega
    rw [itemsV] at h
    split at h
    · rename_i hc
      obtain ⟨u, r', h1, h2⟩ := PV.and_eq_ok h
      cases h2
      obtain ⟨h3, h4⟩ := mustV_some h1
      exact ⟨h3, fun _ => by simpa using hc.2, fun h15 => by omega, fun v hv => by cases hv⟩
    · rename_i hn16
      split at h
      · rename_i hc
        cases h
        exact ⟨cons_drop hc.2, fun h16 => by omega, fun h => by simpa using hi h, fun v hv => by cases hv⟩
      · obtain ⟨u, r1, h1, h⟩ := PV.and_eq_ok h
        split at h
        · cases h
        rename_i hno
        obtain ⟨v, r2, h2, h⟩ := PV.and_eq_ok h
        obtain ⟨l', r3, h3, h⟩ := PV.and_eq_ok h
        cases h
        obtain ⟨w1, w2, w3⟩ := hR _ _ _ h2
        obtain ⟨i1, i2, i3, i4⟩ := items_wrote s d f g R hk hg hR m (i + 1) r2 l' r h3 (fun h => by have := hi h; omega)
        have e1 : itemT f (showV d) i v = (if i = 0 then [] else [44]) ++ showV d g v := by
          unfold itemT
          rw [show childN f i = 0 from if_neg h17, hg]
          congr 1
          split
          · rw [if_neg h17]; rfl
          · rfl
        refine ⟨?_, fun h => ?_, fun h => ?_, fun w hw => ?_⟩
        · rw [itemsT, e1, List.append_assoc, List.append_assoc, ← i1, ← w1]
          split at h1
          · rename_i h0
            cases h1
            rw [if_pos h0]; rfl
          · rename_i h0
            rw [if_neg h0]
            exact (mustV_some h1).1
        · have := i2 h; rw [List.length_cons, ← this]; congr 1; omega
        · have := i3 h; rw [List.length_cons]; omega
        · rcases List.mem_cons.1 hw with rfl | hw
          · exact ⟨w2, w3⟩
          · exact i4 w hw
theorem kids_wrote (s : List UInt8) (d : Nat) (f : Fld) (hk : f.k = 17) : ∀ (gs : List Fld) (i q : Nat) (l : List Vl) (r : Nat), (∀ j, gs[j]? = f.sub[i + j]?) → (∀ g ∈ gs, Wrote s d g (readV s d g)) → kidsV s (readV s d) (decide (i = 0)) gs q = .ok l r →
    s.drop q = itemsT f (showV d) i l ++ 125 :: s.drop r ∧ l.length = gs.length ∧ (∀ v ∈ l, ∀ n, rngD n v) ∧ ∀ (j : Nat) (g : Fld) (v : Vl), gs[j]? = some g → l[j]? = some v → fitD d g v = true
  | [], i, q, l, r, hgs, hR, h => by
    rw [kidsV] at h
    obtain ⟨u, r', h1, h2⟩ := PV.and_eq_ok h
    cases h2
    exact ⟨(mustV_some h1).1, rfl, fun v hv => (by cases hv), fun j g v hj => (by simp at hj)⟩
  | g :: gs, i, q, l, r, hgs, hR, h => by
    have hg : f.sub[i]? = some g := by have := hgs 0; simpa using this.symm
    rw [kidsV] at h
    obtain ⟨u, r1, h1, h⟩ := PV.and_eq_ok h
    obtain ⟨u2, r2, h2, h⟩ := PV.and_eq_ok h
    obtain ⟨v, r3, h3, h⟩ := PV.and_eq_ok h
    obtain ⟨l', r4, h4, h⟩ := PV.and_eq_ok h
    cases h
    obtain ⟨w1, w2, w3⟩ := hR g (.head _) _ _ _ h3
    have h4' : kidsV s (readV s d) (decide (i + 1 = 0)) gs r3 = .ok l' r := by rw [decide_eq_false (by omega)]; exact h4
    obtain ⟨i1, i2, i3, i4⟩ := kids_wrote s d f hk gs (i + 1) r3 l' r (fun j => by have := hgs (j + 1); rw [List.getElem?_cons_succ] at this; rw [this]; congr 1; omega) (fun g hg => hR g (.tail _ hg)) h4'
    have e1 : itemT f (showV d) i v = (if i = 0 then [] else [44]) ++ ((g.nm ++ [58]) ++ showV d g v) := by
      unfold itemT
      rw [show childN f i = i from if_pos hk, hg]
      simp only
      rw [if_pos hk]
    refine ⟨?_, by rw [List.length_cons, List.length_cons, i2], fun w hw => ?_, fun j g' w hj hw => ?_⟩
    · have hm := (mustV_some h2).1
      rw [itemsT, e1, List.append_assoc, List.append_assoc, List.append_assoc, ← i1, ← w1, ← hm]
      split at h1
      · rename_i h0
        cases h1
        rw [if_pos (by simpa using h0)]; rfl
      · rename_i h0
        rw [if_neg (by simpa using h0)]
        exact (mustV_some h1).1
    · rcases List.mem_cons.1 hw with rfl | hw
      · exact w3
      · exact i3 w hw
    · cases j with
      | zero =>
        simp only [List.getElem?_cons_zero, Option.some.injEq] at hj hw
        subst hj; subst hw
        exact w2
      | succ j => exact i4 j g' w (by simpa using hj) (by simpa using hw)
theorem andT {a b : Bool} (h1 : a = true) (h2 : b = true) : (a && b) = true := by rw [h1, h2]; rfl
theorem notOr {p : Prop} [Decidable p] {b : Bool} (h : p → b = true) : (!decide p || b) = true := by
  by_cases hp : p
  · rw [h hp, Bool.or_true]
  · rw [decide_eq_false hp]; rfl
theorem wrap_len {f : Fld} (h : shapedF f) (hA : f.k = 19 ∨ f.k = 20) : ∃ g, f.sub = [g] := by
  have h1 := h.2.2.2.1
  have h2 := h.2.2.2.2
  have hlen : f.sub.length = 1 := by rcases hA with hk | hk <;> rw [hk] at h1 h2 <;> simp [leastK, mostK] at h1 h2 <;> omega
  exact List.length_eq_one_iff.1 hlen
/-- A null is read where it may be, and stands there. -/
theorem read_null (s : List UInt8) : ∀ (d : Nat) (ind : Bool) (f : Fld) (q : Nat) (v : Vl) (r : Nat), okT d ind f → readV s d f q = .ok v r → v.nu = true → letsP f = true ∧ rowP smallB s q = nullT ∧ opensB s (q + 4) = false
  | 0, ind, f, q, v, r, hok, _, _ => hok.elim
  | d + 1, ind, f, q, v, r, hok, h, hv => by
    rw [readV] at h
    split at h
    · rename_i hn
      exact hn
    rename_i hnn
    exfalso
    split at h
    · rename_i hA
      obtain ⟨g, hsub⟩ := wrap_len hok.1.1 hA
      have hg : f.sub[0]? = some g := by rw [hsub]; rfl
      rw [hg] at h
      have hokg := hok.2 g (List.mem_of_getElem? hg)
      have ih := read_null s d _ g q v r hokg h hv
      rcases hA with hk | hk
      · have hfn := hok.1.2.2.1 hk
        unfold firstNl at hfn
        rw [hsub] at hfn
        have hgn : g.nl = false := by simpa using hfn
        have hg20 : ¬ (g.k = 19 ∨ g.k = 20) := by
          cases d with
          | zero => exact hokg.elim
          | succ d => exact hokg.1.2.2.2.1 (by simp [hk])
        have := lets_out (f := g) (fun h => hg20 (.inr h.1))
        rw [ih.1, hgn] at this
        simp at this
      · exact hnn ⟨by rw [lets_in hk hsub]; exact ih.1, ih.2⟩
    · split at h
      · obtain ⟨t, r', h1, h2⟩ := PV.and_eq_ok h
        cases h2; cases hv
      · split at h
        · obtain ⟨t, r', h1, h2⟩ := PV.and_eq_ok h
          cases h2; cases hv
        · split at h
          · obtain ⟨t, r', h1, h2⟩ := PV.and_eq_ok h
            split at h2
            · cases h2; cases hv
            · cases h2
          · split at h
            · obtain ⟨_, r', h1, h2⟩ := PV.and_eq_ok h
              obtain ⟨t, r'', h3, h4⟩ := PV.and_eq_ok h2
              cases h4; cases hv
            · split at h
              · obtain ⟨_, r', h1, h2⟩ := PV.and_eq_ok h
                obtain ⟨t, r'', h3, h4⟩ := PV.and_eq_ok h2
                cases h4; cases hv
              · split at h
                · unfold choiceV at h
                  split at h
                  · obtain ⟨_, r1, h1, h2⟩ := PV.and_eq_ok h
                    obtain ⟨t, r2, h3, h4⟩ := PV.and_eq_ok h2
                    obtain ⟨_, r3, h5, h6⟩ := PV.and_eq_ok h4
                    cases h6; cases hv
                  · cases h
                · split at h
                  · cases h; cases hv
                  · cases h
theorem row_drop (f : UInt8 → Bool) (s : List UInt8) (q : Nat) : s.drop q = rowP f s q ++ s.drop (runP f s q) := by
  have hp : rowP f s q <+: s.drop q := List.takeWhile_prefix _
  obtain ⟨t, ht⟩ := hp
  rw [runP_eq, drop_to ht.symm, ht]
/-- What is read was written, and fits. -/
theorem read_wrote (s : List UInt8) : ∀ (d : Nat) (ind : Bool) (f : Fld), okT d ind f → Wrote s d f (readV s d f)
  | 0, ind, f, hok => hok.elim
  | d + 1, ind, f, hok => by
    intro q v r h
    have hfin : ∀ (num : Int) (tx : List UInt8) (ls : List Vl), (-9223372036854775808 ≤ num ∧ num < 9223372036854775808) → (∀ x ∈ ls, ∀ n, rngD n x) → ∀ n, rngD n (.mk false num tx ls) := fun num tx ls h1 h2 n => by
      cases n with
      | zero => trivial
      | succ n => exact ⟨h1, fun x hx => h2 x hx n⟩
    have z64 : (-9223372036854775808 : Int) ≤ 0 ∧ (0 : Int) < 9223372036854775808 := by decide
    have hnull := read_null s (d + 1) ind f q v r hok h
    rw [readV] at h
    split at h
    · rename_i hn
      cases h
      refine ⟨?_, ?_, fun n => ?_⟩
      · rw [showV, if_pos (show (Vl.mk true 0 [] []).nu = true from rfl)]
        have h1 : rowP smallB s q = nullT := hn.2.1
        have hp : nullT <+: s.drop q := by rw [← h1]; exact List.takeWhile_prefix _
        obtain ⟨t, ht⟩ := hp
        have h4 : s.drop (q + 4) = t := drop_to (t := nullT) ht.symm
        rw [← ht, h4]
      · rw [fitD, if_pos (show (Vl.mk true 0 [] []).nu = true from rfl)]
        simp [Vl.ls, Vl.num, Vl.tx, hn.1]
      · cases n with
        | zero => trivial
        | succ n => exact ⟨z64, fun x hx => by cases hx⟩
    rename_i hnn
    have hvn : v.nu = false := by
      cases hv : v.nu with
      | false => rfl
      | true => exact absurd (hnull hv) hnn
    clear hnull
    have hnu : ¬ v.nu = true := by rw [hvn]; decide
    rw [showV, if_neg hnu, fitD, if_neg hnu]
    by_cases hA : f.k = 19 ∨ f.k = 20
    · rw [if_pos hA] at h ⊢
      rw [if_pos hA]
      obtain ⟨g, hsub⟩ := wrap_len hok.1.1 hA
      have hg : f.sub[0]? = some g := by rw [hsub]; rfl
      rw [hg] at h ⊢
      obtain ⟨w1, w2, w3⟩ := read_wrote s d _ g (hok.2 g (List.mem_of_getElem? hg)) q v r h
      refine ⟨w1, ?_, w3⟩
      simp only
      rw [w2, Bool.and_true]
      cases d with
      | zero => exact (hok.2 g (List.mem_of_getElem? hg)).elim
      | succ d => rw [fitD] at w2; exact (Bool.and_eq_true_iff.1 w2).1
    rw [if_neg hA] at h ⊢
    rw [if_neg hA]
    by_cases h12 : f.k = 12
    · rw [if_pos h12] at h ⊢
      rw [if_neg (by omega), if_neg (by omega), if_pos (.inl h12)]
      obtain ⟨t, r', h1, h2⟩ := PV.and_eq_ok h
      cases h2
      obtain ⟨_, r2, h3, h4⟩ := PV.and_eq_ok h1
      obtain ⟨m1, m2⟩ := mustV_some h3
      obtain ⟨q1, q2⟩ := restV_some s _ _ _ _ h4
      refine ⟨?_, ?_, hfin _ _ _ z64 (fun x hx => by cases hx)⟩
      · rw [m1, q1]; simp [textT, Vl.tx]
      · simp only [Vl.tx, Vl.ls, Vl.num, List.length_nil, q2]
        simp
        omega
    rw [if_neg h12] at h ⊢
    by_cases h13 : f.k = 13 ∨ f.k = 14
    · rw [if_pos h13]
      rw [if_neg (by omega), if_neg (by omega), if_pos (by omega)]
      have key : ∃ t r', rawV s q = .ok t r' ∧ v = .mk false 0 t [] ∧ r = r' ∧ (f.k = 14 → (t.length : Int) = f.wd) := by
        rcases h13 with hk | hk
        · rw [if_pos hk] at h
          obtain ⟨t, r', h1, h2⟩ := PV.and_eq_ok h
          cases h2
          exact ⟨t, _, h1, rfl, rfl, fun h => by omega⟩
        · rw [if_neg (by omega), if_pos hk] at h
          obtain ⟨t, r', h1, h2⟩ := PV.and_eq_ok h
          split at h2
          · rename_i hw
            cases h2
            exact ⟨t, _, h1, rfl, rfl, fun _ => hw⟩
          · cases h2
      obtain ⟨t, r', h1, rfl, rfl, hw⟩ := key
      obtain ⟨_, r2, h3, h4⟩ := PV.and_eq_ok h1
      obtain ⟨m1, m2⟩ := mustV_some h3
      have q1 := hexV_some s _ _ _ _ h4
      refine ⟨?_, ?_, hfin _ _ _ z64 (fun x hx => by cases hx)⟩
      · rw [m1, q1]; simp [bytesT, Vl.tx]
      · exact andT (decide_eq_true (Nat.zero_le _)) (andT (decide_eq_true rfl) (andT (decide_eq_true rfl) (andT (notOr fun h => absurd h h12) (notOr fun h => decide_eq_true (hw h)))))
    rw [if_neg h13]
    rw [if_neg (by omega), if_neg (by omega)] at h
    by_cases h18 : f.k = 18
    · rw [if_neg (by omega), if_neg (by omega), if_pos h18] at h
      rw [if_pos h18, if_pos h18]
      unfold choiceV at h
      split at h
      · rename_i i g hi hgf
        obtain ⟨_, r1, h1, h2⟩ := PV.and_eq_ok h
        obtain ⟨z, r2, h3, h4⟩ := PV.and_eq_ok h2
        obtain ⟨_, r3, h5, h6⟩ := PV.and_eq_ok h4
        cases h6
        obtain ⟨hil, hiq, _⟩ := List.findIdx?_eq_some_iff_getElem.1 hi
        have hgs := List.find?_some hgf
        obtain ⟨_, i', hi', hge, hlt⟩ := List.find?_eq_some_iff_getElem.1 hgf
        have hii : i' = i := by
          have hap := hok.1.2.2.2.2.2 i' i f.sub[i'] f.sub[i] (List.getElem?_eq_getElem hi') (List.getElem?_eq_getElem hil) (by
            rw [hge]
            simp only [beq_iff_eq] at hgs hiq
            rw [hgs, hiq])
          exact hap
        subst hii
        have hg : f.sub[i']? = some g := by rw [List.getElem?_eq_getElem hi', hge]
        have hgm := List.mem_of_getElem? hg
        obtain ⟨w1, w2, w3⟩ := read_wrote s d _ g (hok.2 g hgm) _ _ _ h3
        have hname : rowP nameB s q = g.nm := (beq_iff_eq.1 hgs).symm
        have hl32 : f.sub.length ≤ 32 := by
          have h9 := hok.1.1.2.2.2.2
          rw [h18] at h9
          simp [mostK] at h9
          omega
        simp only [Vl.num, Vl.ls, Vl.tx, Int.toNat_natCast, hg, List.getElem?_cons_zero, w2, List.length_singleton]
        refine ⟨?_, ?_, hfin _ _ _ (by omega) (fun x hx => by rw [List.mem_singleton.1 hx]; exact w3)⟩
        · rw [row_drop nameB s q, hname, (mustV_some h1).1, w1, (mustV_some h5).1]
          simp
        · simp
          omega
      · cases h
    rw [if_neg h18, if_neg h18]
    by_cases h15 : f.k = 15 ∨ f.k = 16 ∨ f.k = 17
    · rw [if_pos h15, if_pos h15]
      by_cases h17 : f.k = 17
      · rw [if_neg (by omega), if_pos h17] at h
        obtain ⟨_, r1, h1, h2⟩ := PV.and_eq_ok h
        obtain ⟨l, r2, h3, h4⟩ := PV.and_eq_ok h2
        cases h4
        obtain ⟨k1, k2, k3, k4⟩ := kids_wrote s d f h17 f.sub 0 r1 l r (fun j => by rw [Nat.zero_add]) (fun g hg => read_wrote s d _ g (hok.2 g hg)) h3
        have hl32 : f.sub.length ≤ 32 := by
          have h9 := hok.1.1.2.2.2.2
          rw [h17] at h9
          simp [mostK] at h9
          omega
        refine ⟨?_, ?_, hfin _ _ _ z64 k3⟩
        · rw [if_pos h17, if_pos h17, (mustV_some h1).1, k1]; simp [Vl.ls]
        · refine andT (decide_eq_true (show l.length ≤ 4096 by omega)) (andT (decide_eq_true rfl) (andT (decide_eq_true rfl) (andT (decide_eq_true fun h => absurd h (by omega)) (andT (decide_eq_true fun _ => k2) (List.all_eq_true.2 fun j hj => ?_)))))
          have hj : j < l.length := List.mem_range.1 hj
          have hg : f.sub[j]? = some f.sub[j] := List.getElem?_eq_getElem (by omega)
          have hv : l[j]? = some l[j] := List.getElem?_eq_getElem hj
          show (match f.sub[childN f j]?, l[j]? with | some g, some x => fitD d g x | _, _ => false) = true
          rw [show childN f j = j from if_pos h17, hg, hv]
          exact k4 j _ _ hg hv
      · have hk2 : f.k = 15 ∨ f.k = 16 := by omega
        rw [if_pos hk2] at h
        obtain ⟨_, r1, h1, h2⟩ := PV.and_eq_ok h
        obtain ⟨l, r2, h3, h4⟩ := PV.and_eq_ok h2
        cases h4
        have hlen : 1 ≤ f.sub.length := by
          have h1 := hok.1.1.2.2.2.1
          rcases hk2 with hk | hk <;> rw [hk] at h1 <;> simp [leastK] at h1 <;> omega
        obtain ⟨g, hg⟩ : ∃ g, f.sub[0]? = some g := ⟨_, List.getElem?_eq_getElem (by omega)⟩
        have hch : ∀ i, childN f i = 0 := fun i => if_neg h17
        rw [hg] at h3
        obtain ⟨k1, k2, k3, k4⟩ := items_wrote s d f g _ hk2 hg (read_wrote s d _ g (hok.2 g (List.mem_of_getElem? hg))) 4200 0 r1 l r h3 (fun _ => by omega)
        have hwd : f.k = 16 → f.wd ≤ 64 := fun h16 => by
          have := hok.1.1.2.1
          rw [h16] at this
          have h9 : 1 ≤ f.wd ∧ f.wd ≤ 64 := by simpa [wideP, widthK] using this
          exact h9.2
        have h4096 : l.length ≤ 4096 := by
          rcases hk2 with hk | hk
          · have := k3 hk; omega
          · have := k2 hk; have := hwd hk; omega
        refine ⟨?_, ?_, hfin _ _ _ z64 (fun x hx => (k4 x hx).2)⟩
        · rw [if_neg h17, if_neg h17, (mustV_some h1).1, k1]; simp [Vl.ls]
        · refine andT (decide_eq_true h4096) (andT (decide_eq_true rfl) (andT (decide_eq_true rfl) (andT (decide_eq_true fun h => (by have := k2 h; rw [Nat.zero_add] at this; exact this)) (andT (decide_eq_true fun h => absurd h h17) (List.all_eq_true.2 fun j hj => ?_)))))
          have hj : j < l.length := List.mem_range.1 hj
          have hv : l[j]? = some l[j] := List.getElem?_eq_getElem hj
          show (match f.sub[childN f j]?, l[j]? with | some g, some x => fitD d g x | _, _ => false) = true
          rw [hch, hg, hv]
          exact (k4 l[j] (List.getElem_mem hj)).1
    rw [if_neg h15, if_neg h15, if_neg (by omega)]
    rw [if_neg (by omega), if_neg (by omega), if_neg h18] at h
    split at h
    · rename_i n hn
      cases h
      obtain ⟨⟨n1, n2⟩, n3⟩ := readN_some hn
      refine ⟨?_, ?_, hfin _ _ _ n1 (fun x hx => by cases hx)⟩
      · show s.drop q = numT f.k n ++ _
        rw [n3]
        exact row_drop smallB s q
      · refine andT (decide_eq_true (Nat.zero_le _)) (andT (decide_eq_true rfl) (andT (decide_eq_true rfl) ?_))
        show (if f.k = 2 then decide (n = 0 ∨ n = 1) else if f.k = 11 then true else wholeP f.k && rangedP f.k n) = true
        by_cases k2 : f.k = 2
        · rw [if_pos k2] at n2 ⊢; exact decide_eq_true n2
        rw [if_neg k2] at n2 ⊢
        by_cases k11 : f.k = 11
        · rw [if_pos k11]
        rw [if_neg k11] at n2 ⊢
        exact andT n2.1 n2.2
    · cases h
end Go.Proofs.YtilejcofleeeiaaGreatDoor
