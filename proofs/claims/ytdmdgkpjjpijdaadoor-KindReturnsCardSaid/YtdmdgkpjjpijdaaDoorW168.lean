/- YtdmdgkpjjpijdaaDoor: walks, part 166: a reader: notes. -/
import Derived.Test.YtdmdgkpjjpijdaaDoorW165
import Derived.Test.YtdmdgkpjjpijdaaDoorW155
namespace Go.Proofs.YtdmdgkpjjpijdaaDoor
open Go Go.K
set_option maxRecDepth 100000
set_option linter.unusedVariables false
set_option linter.unusedSimpArgs false
set_option maxHeartbeats 4000000
theorem infoNote : (Tryd.prog.info? 64).map (fun i => (i.zero, i.size, i.bytes)) = some (some (.agg #[str [], str []]), 2, 32) := by kernel_rfl
theorem pRest_le {s : List UInt8} : ∀ (m p r : Nat) (t : List UInt8), p ≤ s.length → pRest s m p = .ok t r → p < r ∧ r ≤ s.length
  | 0, p, r, t, hp, h => by cases h
  | m + 1, p, r, t, hp, h => by
    rw [pRest] at h
    split at h
    · cases h
    rename_i c hc
    have hlt := (List.getElem?_eq_some_iff.1 hc).1
    split at h
    · cases h; exact ⟨by omega, by omega⟩
    split at h
    · obtain ⟨x, q, h1, h2⟩ := PR.and_eq_ok h
      obtain ⟨l, q2, h3, h4⟩ := PR.and_eq_ok h2
      cases h4
      have hq : p < q ∧ q ≤ s.length := by
        unfold pEsc at h1
        split at h1
        · cases h1
        rename_i c1 g1
        have l1 := (List.getElem?_eq_some_iff.1 g1).1
        split at h1
        · cases h1; omega
        split at h1
        · cases h1
        split at h1
        · cases h1
        rename_i c2 g2
        have l2 := (List.getElem?_eq_some_iff.1 g2).1
        split at h1
        · cases h1
        split at h1
        · cases h1
        rename_i c3 g3
        have l3 := (List.getElem?_eq_some_iff.1 g3).1
        split at h1
        · cases h1
        · cases h1; omega
      have := pRest_le m q r l hq.2 h3
      omega
    split at h
    · obtain ⟨l, q2, h3, h4⟩ := PR.and_eq_ok h
      cases h4
      have := pRest_le m (p + 1) r l (by omega) h3
      omega
    · cases h
theorem pQuote_le {s : List UInt8} {q r : Nat} {t : List UInt8} (hq : q ≤ s.length) (h : pQuote s q = .ok t r) : q < r ∧ r ≤ s.length ∧ blP s r = r := by
  unfold pQuote at h
  split at h
  · rename_i h1
    have l1 := (List.getElem?_eq_some_iff.1 h1).1
    obtain ⟨x, p, h2, h3⟩ := PR.and_eq_ok h
    cases h3
    have h4 := pRest_le _ _ _ _ (by omega) h2
    have h5 := runP_ge blankB s p
    exact ⟨by unfold blP; omega, runP_le h4.2, runP_idem _ _ _⟩
  · cases h
/-- Notes, as cells. -/
def noteCs (nt : List NoteQ) : List Value := nt.flatMap fun n => [str n.1, str n.2]
theorem noteCs_append (a b : List NoteQ) : noteCs (a ++ b) = noteCs a ++ noteCs b := by simp [noteCs]
theorem row_notes {w : World} {R : Own} {v : Value} {nt : List NoteQ} (h : RowO w 64 2 R [] v nt.length (noteCs nt)) : ∃ a c, v = .slice a nt.length c ∧ OwN nt R a c := by
  obtain ⟨_, ⟨rfl, h1, rfl⟩ | ⟨b, c, cs, rfl, rfl, h1, h2, h3, h4, h5⟩⟩ := h
  · have : nt = [] := List.eq_nil_of_length_eq_zero h1
    subst this
    exact ⟨none, 0, rfl, .inl ⟨rfl, rfl, rfl, rfl⟩⟩
  · exact ⟨_, c, rfl, .inr ⟨b, cs, rfl, rfl, h2, h3, h4, h5⟩⟩
structure NtI (w0 : World) (rb : Nat) (s : List UInt8) (M : Own) (t0 : PR (List NoteQ)) (p : Nat) (wb : World) (e : Env) (ds : List Deferred) (L : Own) : Prop where
  hw : wb = w0
  hds : ds = []
  hp : p ≤ s.length
  h0 : e 0 = .pointer (some ⟨rb, 0, none⟩)
  o : ∃ (v : Value) (R : Own) (nt : List NoteQ) (m : Nat), e 3 = v ∧ RowO w0 64 2 R [] v nt.length (noteCs nt) ∧ nt.length ≤ blP s p ∧ s.length - blP s p < m ∧ (t0 = (pNotes s m (blP s p)).and fun l r => .ok (nt ++ l) r) ∧ L = oRd rb s p :: (R ++ M)
theorem notes_walk (wb w : World) (rb : Nat) (s : List UInt8) (p : Nat) (M : Own) (hs : s.length ≤ 65536) (hp : p ≤ s.length) (hrb : wb.heap.size ≤ rb) (hw : Sy wb (oRd rb s p :: M) w) :
    Calls Tryd.prog 24 #[.pointer (some ⟨rb, 0, none⟩)] w (PRet wb rb s M (pNotes s (s.length + 1) (blP s p)) fun nt _ v K => ∃ a c, v = .slice a nt.length c ∧ OwN nt K a c) := by
  refine enterB (args := [.pointer (some ⟨rb, 0, none⟩)]) Tryd.func24 rfl Tryd.ntmps24 (congrArg Array.toList Tryd.results24) (by kernel_rfl) (by simp) hw ?_
  simp (disch := omega) only [push_cast, Nat.reduceEqDiff]
  rw [V_block]
  simp (disch := omega) only [push_cast, Nat.reduceEqDiff]
  refine loopW (G := Nat) (NtI wb rb s M (pNotes s (s.length + 1) (blP s p))) (fun p => s.length - blP s p) p _ (fun w hw => hw) (by kernel_rfl) ⟨rfl, rfl, hp, rfl, .slice none 0 0, [], [], s.length + 1, rfl, ⟨rfl, .inl ⟨rfl, rfl, rfl⟩⟩, by simp, by omega, by
    cases pNotes s (s.length + 1) (blP s p) <;> rfl, rfl⟩ ?_
  rintro i wb e ds L ⟨rfl, rfl, hi, h0, v, R, nt, m, h3, hR, hni, hm, ht, rfl⟩
  obtain ⟨m, rfl⟩ : ∃ k, m = k + 1 := ⟨m - 1, by omega⟩
  have hRn : ∀ b ∈ R, wb.heap.size ≤ b.1 := RowO.new hR (by simp)
  have hble : blP s i ≤ s.length := runP_le hi
  have hfall : ∀ (q : Nat) (K : Own), (∀ b ∈ K, wb.heap.size ≤ b.1) → pNotes s (m + 1) (blP s i) = .no q → ∀ w', Sy wb (K ++ (R ++ M)) w' → PRet wb rb s M (pNotes s (s.length + 1) (blP s p)) (fun nt _ v K => ∃ a c, v = .slice a nt.length c ∧ OwN nt K a c) (.panicked [faultE q]) w' := fun q K hK hq2 w' hw' => by
    refine PRet.fall (K ++ R) (by rw [ht, hq2]; rfl) (fun b hb => ?_) (by rw [List.append_assoc]; exact hw')
    rcases List.mem_append.1 hb with hb | hb
    · exact hK b hb
    · exact hRn b hb
  rw [V_block]
  simp (disch := omega) only [push_cast, Nat.reduceEqDiff, h0, h3]
  refine callV en_39 (callX_pr (fun w' hw' => quoted_read wb w' rb s i (R ++ M) hs hi hrb hw') (fun k q v1 p1 K hr hq hp' hS hK => ?_) (fun q K hr hK => ?_))
  rotate_left
  · simp (disch := omega) only [push_cast, Nat.reduceEqDiff, h0, h3]
    exact hfall q K hK (by rw [pNotes, hr]; rfl)
  have e1 := hS.1
  have e2 := hS.2
  subst e1
  subst e2
  have g1 := pQuote_le hble hr
  simp (disch := omega) only [push_cast, Nat.reduceEqDiff, h0, h3]
  refine callV en_39 (callX_pr (fun w' hw' => quoted_read wb w' rb s p1 (R ++ M) hs hp' hrb hw') (fun t q2 v2 p2 K hr2 hq2 hp2 hS hK => ?_) (fun q2 K hr2 hK => ?_))
  rotate_left
  · simp (disch := omega) only [push_cast, Nat.reduceEqDiff, h0, h3]
    exact hfall q2 K hK (by rw [pNotes, hr, PR.and_ok, ← hq, hr2]; rfl)
  have e1 := hS.1
  have e2 := hS.2
  subst e1
  subst e2
  have g2 := pQuote_le (by rw [hq]; exact g1.2.1) hr2
  simp (disch := omega) only [push_cast, Nat.reduceEqDiff, h0, h3]
  refine bs_24_1 (newI fun b9 hb9 hn9 => ?_)
  simp (disch := omega) only [push_cast, Nat.reduceEqDiff, h0, h3]
  refine valX_weak (L' := R ++ ((b9, Obj.cells #[str k, str t] 64 (0, 0)) :: oRd rb s p2 :: M)) (fun w hw => hw.perm (?_ : List.Perm ((b9, Obj.cells #[str k, str t] 64 (0, 0)) :: oRd rb s p2 :: (R ++ M)) _)) (appendI un_24 infoNote rfl (m := 1) (news := [str k, str t]) (RowO.frame hR) rfl (CanRead.of_own (e := 64) (b := b9) (cs := [str k, str t]) (n := 2) (List.mem_append_right _ (.head _)) rfl rfl) (by simp [Value.oneCell']) (by simp only [maxLen]; omega) (by omega) (fun v5 L5 hro5 _ => ?_))
  · exact permC fun f => by simp only [wt_append, wt_cons, wt_nil]; omega
  (refine Exists.elim (RowO.unframe hro5) (fun R5 hz => ?_); have ez := hz.1; subst ez; have hR5 := hz.2; clear hz)
  simp (disch := omega) only [push_cast, Nat.reduceEqDiff, h0, h3]
  have hle2 : blP s p2 ≤ s.length := runP_le hp2
  have hfull : ∀ r, (pNotes s (m + 1) (blP s i)) = r → pNotes s (s.length + 1) (blP s p) = r.and fun l r => .ok (nt ++ l) r := fun r h => by rw [ht, h]
  have hstep : pNotes s (m + 1) (blP s i) = match pSign s 44 q2 with
      | none => .ok [(k, t)] q2
      | some r2 => (pNotes s m r2).and fun l r3 => .ok ((k, t) :: l) r3 := by
    rw [pNotes, hr, PR.and_ok, ← hq, hr2, PR.and_ok]
    cases pSign s 44 q2 <;> rfl
  refine callV en_23 (callX_two (fun L' => s[blP s p2]? = some 44 ∧ L' = oRd rb s (blP s p2 + 1) :: (R5 ++ ((b9, Obj.cells #[str k, str t] 64 (0, 0)) :: M))) (fun L' => s[blP s p2]? ≠ some 44 ∧ L' = oRd rb s (blP s p2) :: (R5 ++ ((b9, Obj.cells #[str k, str t] 64 (0, 0)) :: M))) (fun w' hw' => take_walk wb w' rb s p2 _ 44 44 rfl hs hp2 (hw'.perm (?_ : List.Perm (R5 ++ ((b9, Obj.cells #[str k, str t] 64 (0, 0)) :: oRd rb s p2 :: M)) _))) (fun L' hL' => ?_) (fun L' hL' => ?_))
  · exact permC fun f => by simp only [wt_append, wt_cons, wt_nil]; omega
  · have h := hL'.1
    have e := hL'.2
    subst e
    have hlt := (List.getElem?_eq_some_iff.1 h).1
    simp (disch := omega) only [push_cast, Nat.reduceEqDiff, h0, h3, Bool.not_true]
    rw [V_cond]
    simp (disch := omega) only [push_cast, Nat.reduceEqDiff, h0, h3, Bool.not_true]
    have hq44 : pSign s 44 q2 = some (blP s (blP s p2 + 1)) := by
      unfold pSign
      rw [← hq2, if_pos h]
    have hge : blP s p2 + 1 ≤ blP s (blP s p2 + 1) := runP_ge _ _ _
    refine ⟨blP s p2 + 1, oRd rb s (blP s p2 + 1) :: (R5 ++ M), fun w hw => hw.mid (_ :: R5) [_] (fun p hp => by rw [List.mem_singleton.1 hp]; exact hb9), ⟨rfl, rfl, by omega, h0, _, R5, nt ++ [(k, t)], m, rfl, hR5.cast (by simp) (by rw [noteCs_append]; rfl), by simp only [List.length_append, List.length_cons, List.length_nil]; omega, by omega, ?_, rfl⟩, by omega⟩
    rw [hfull _ hstep, hq44]
    simp only
    cases pNotes s m (blP s (blP s p2 + 1)) <;> simp [PR.and]
  · have h := hL'.1
    have e := hL'.2
    subst e
    simp (disch := omega) only [push_cast, Nat.reduceEqDiff, h0, h3, Bool.not_false]
    rw [V_cond]
    simp (disch := omega) only [push_cast, Nat.reduceEqDiff, h0, h3, Bool.not_false]
    have hq44 : pSign s 44 q2 = none := by
      unfold pSign
      rw [← hq2, if_neg h]
    have hR6 := hR5.cast (n' := (nt ++ [(k, t)]).length) (by simp) (show _ = noteCs (nt ++ [(k, t)]) by rw [noteCs_append]; rfl)
    refine fun w' hw' => PRet.leaf _ (blP s p2) R5 (x := nt ++ [(k, t)]) (q := q2) ?_ (by rw [blP, runP_idem]; exact hq2) hle2 (row_notes hR6) (RowO.new hR6 (by simp)) (hw'.mid (_ :: R5) [_] (fun p hp => by rw [List.mem_singleton.1 hp]; exact hb9))
    rw [hfull _ hstep, hq44]
    rfl
end Go.Proofs.YtdmdgkpjjpijdaaDoor
/- YtdmdgkpjjpijdaaDoor: walks, part 168: a reader: one field; fields with commas between. -/
namespace Go.Proofs.YtdmdgkpjjpijdaaDoor
open Go Go.K
set_option maxRecDepth 100000
set_option linter.unusedVariables false
set_option linter.unusedSimpArgs false
set_option maxHeartbeats 4000000
/-- A field that was read, and its place tree. -/
def FieldV (x : Fz) (v : Value) (K : Own) : Prop := ∃ (a : Option Addr) (c : Nat) (a2 : Option Addr) (c2 : Nat) (K1 K2 : Own), v = .tuple #[.agg (x.1.cells a c).toArray, .agg #[i64 x.2.at_, .slice a2 x.2.kids.length c2]] ∧ K = K1 ++ K2 ∧ OwF x.1 K1 a c ∧ OwP x.2 K2 a2 c2
/-- Fields that were read. -/
def ListV (xs : List Fz) (v : Value) (K : Own) : Prop := ∃ (a : Option Addr) (c : Nat) (a2 : Option Addr) (c2 : Nat) (K1 K2 : Own), v = .tuple #[.slice a xs.length c, .slice a2 xs.length c2] ∧ K = K1 ++ K2 ∧ OwS (xs.map (·.1)) K1 a c ∧ OwPS (xs.map (·.2)) K2 a2 c2
/-- A type that was read. -/
def TypeV (t : Ty) (v : Value) (K : Own) : Prop := ∃ (a : Option Addr) (c : Nat) (a2 : Option Addr) (c2 : Nat) (K1 K2 : Own), v = .tuple #[.agg #[i64 t.k, i64 t.wd, i64 t.id, i64 t.ix, .slice a t.l.length c], .slice a2 t.l.length c2] ∧ K = K1 ++ K2 ∧ OwS (t.l.map (·.1)) K1 a c ∧ OwPS (t.l.map (·.2)) K2 a2 c2
/-- What a reader's function is asked under. -/
structure RdQ (wb w : World) (rb : Nat) (s : List UInt8) (p : Nat) (M : Own) : Prop where
  hs : s.length ≤ 65536
  says : SaysAt wb
  lib : LibAt wb
  hp : p ≤ s.length
  hrb : wb.heap.size ≤ rb
  hM : ∀ b ∈ M, wb.heap.size ≤ b.1
  hw : Sy wb (oRd rb s p :: M) w
def FieldOK (d : Nat) : Prop := ∀ (wb w : World) (rb : Nat) (s : List UInt8) (p : Nat) (M : Own), RdQ wb w rb s p M → s.length - blP s p < d →
  Calls Tryd.prog 35 #[.pointer (some ⟨rb, 0, none⟩)] w (PRet wb rb s M (pField s d (blP s p)) fun x _ v K => FieldV x v K)
def OneOK (d : Nat) : Prop := ∀ (wb w : World) (rb : Nat) (s : List UInt8) (p : Nat) (M : Own), RdQ wb w rb s p M → s.length - blP s p < d →
  Calls Tryd.prog 63 #[.pointer (some ⟨rb, 0, none⟩)] w (PRet wb rb s M (one (pField s d) (blP s p)) fun x _ v K => ListV x v K)
def ManyOK (d : Nat) : Prop := ∀ (wb w : World) (rb : Nat) (s : List UInt8) (p : Nat) (M : Own), RdQ wb w rb s p M → s.length - blP s p < d →
  Calls Tryd.prog 22 #[.pointer (some ⟨rb, 0, none⟩)] w (PRet wb rb s M (pMany s (pField s d) (s.length + 1) (blP s p)) fun x _ v K => ListV x v K)
def TypeOK (d : Nat) : Prop := ∀ (wb w : World) (rb : Nat) (s : List UInt8) (p : Nat) (M : Own), RdQ wb w rb s p M → s.length - blP s p < d →
  Calls Tryd.prog 53 #[.pointer (some ⟨rb, 0, none⟩)] w (PRet wb rb s M (pTyped s (pField s d) (blP s p)) fun x _ v K => TypeV x v K)
theorem infoSpot : (Tryd.prog.info? 78).map (fun i => (i.zero, i.size, i.bytes)) = some (some (.agg #[i64 0, .slice none 0 0]), 2, 32) := by kernel_rfl
abbrev oSp (b : Nat) (n : Int) (a : Option Addr) (k c : Nat) : Nat × Obj := (b, Obj.cells #[i64 n, .slice a k c] 78 (0, 0))
abbrev oFi (b : Nat) (f : Fld) (a : Option Addr) (c : Nat) : Nat × Obj := (b, Obj.cells #[str f.nm, .bool f.nl, i64 f.k, i64 f.wd, i64 f.id, i64 f.ix, .slice a f.sub.length c] 41 (0, 0))
theorem own_one {f : Fld} {K : Own} {a : Option Addr} {c b : Nat} (h : OwF f K a c) : OwS [f] (oFi b f a c :: K) (some ⟨b, 0, none⟩) 1 :=
  (OwS_iff _ _ _ _).2 (.inr ⟨b, 1, f.cells a c, f.cells a c, K, rfl, rfl, Nat.le_refl _, Nat.le_refl _, .inl rfl, by omega, rfl, rfl, OwK.single h⟩)
theorem ownP_one {x : Sp} {K : Own} {a : Option Addr} {c b : Nat} (h : OwP x K a c) : OwPS [x] (oSp b x.at_ a x.kids.length c :: K) (some ⟨b, 0, none⟩) 1 :=
  (OwPS_iff _ _ _ _).2 (.inr ⟨b, [i64 x.at_, .slice a x.kids.length c], K, rfl, rfl, Nat.le_refl _, by decide, OwPK.single h⟩)
def OnI (w0 : World) (fv sv : Value) (fo so : Nat → Nat × Obj) (base : Own) (D : Nat → Bool) (e : Env) (ds : List Deferred) (L : Own) : Prop :=
  ds = [] ∧ e 11 = fv ∧ e 13 = sv ∧ (D 4 = true → D 1 = true) ∧ (D 5 = true → D 3 = true) ∧ ∃ bx bz : Nat, (D 1 = true → w0.heap.size ≤ bx) ∧ (D 3 = true → w0.heap.size ≤ bz) ∧ (D 1 = true → e 12 = .slice (some ⟨bx, 0, none⟩) 1 1) ∧ (D 3 = true → e 14 = .slice (some ⟨bz, 0, none⟩) 1 1) ∧ (D 4 = true → e 2 = .slice (some ⟨bx, 0, none⟩) 1 1) ∧ (D 5 = true → e 3 = .slice (some ⟨bz, 0, none⟩) 1 1) ∧
    L = (if D 1 = true then [fo bx] else []) ++ ((if D 3 = true then [so bz] else []) ++ base)
theorem one_step (d : Nat) (hF : FieldOK d) : OneOK d := by
  intro wb w rb s p M hQ hd
  refine enterB (args := [.pointer (some ⟨rb, 0, none⟩)]) Tryd.func63 rfl Tryd.ntmps63 (congrArg Array.toList Tryd.results63) (by kernel_rfl) (by simp) hQ.hw ?_
  simp (disch := omega) only [push_cast, Nat.reduceEqDiff]
  refine callV en_35 (callX_pr (fun w' hw' => hF wb w' rb s p M ⟨hQ.hs, hQ.says, hQ.lib, hQ.hp, hQ.hrb, hQ.hM, hw'⟩ hd) (fun x q v p' K hr hq hp' hS hK => ?_) (fun q K hr hK => ?_))
  rotate_left
  · simp (disch := omega) only [push_cast, Nat.reduceEqDiff]
    exact fun w' hw' => PRet.fall K (by rw [one, hr, PR.and_no]) hK hw'
  (refine Exists.elim (hS) (fun a hz => Exists.elim hz (fun c hz => Exists.elim hz (fun a2 hz => Exists.elim hz (fun c2 hz => Exists.elim hz (fun K1 hz => Exists.elim hz (fun K2 hz => ?_)))))); have ez := hz.1; subst ez; have ez := hz.2.1; subst ez; have hO1 := hz.2.2.1; have hO2 := hz.2.2.2; clear hz)
  simp (disch := omega) only [push_cast, Nat.reduceEqDiff, Fld.cells]
  refine newI (fun b4 hb4 hn4 => ?_)
  simp (disch := omega) only [push_cast, Nat.reduceEqDiff]
  refine newI (fun b5 hb5 hn5 => ?_)
  simp (disch := omega) only [push_cast, Nat.reduceEqDiff]
  refine storeX 1 rfl Siz.eq rfl rfl (by simp [Value.oneCell']) (by simp) ?_
  simp (disch := omega) only [push_cast, Nat.reduceEqDiff]
  refine storeX 0 rfl Siz.eq rfl rfl (by simp [Value.oneCell']) (by simp) ?_
  simp (disch := omega) only [push_cast, Nat.reduceEqDiff]
  have hnewL : ∀ (o4 o5 : Obj), ∀ b ∈ (b5, o5) :: (b4, o4) :: oRd rb s p' :: ((K1 ++ K2) ++ M), wb.heap.size ≤ b.1 := fun o4 o5 b hb => by
    simp only [List.mem_cons] at hb
    rcases hb with rfl | rfl | rfl | hb
    · exact hb5
    · exact hb4
    · exact hQ.hrb
    · rcases List.mem_append.1 hb with hb | hb
      · exact hK b hb
      · exact hQ.hM b hb
  refine freeIT [0, 2] [1, 3, 4, 5] [(1, []), (3, []), (4, [1]), (5, [3])] [oSp b5 x.2.at_ a2 x.2.kids.length c2, oFi b4 x.1 a c]
    (OnI wb (.agg #[str x.1.nm, .bool x.1.nl, i64 x.1.k, i64 x.1.wd, i64 x.1.id, i64 x.1.ix, .slice a x.1.sub.length c]) (.agg #[i64 x.2.at_, .slice a2 x.2.kids.length c2]) (fun b => oFi b x.1 a c) (fun b => oSp b x.2.at_ a2 x.2.kids.length c2) (oSp b5 x.2.at_ a2 x.2.kids.length c2 :: oFi b4 x.1 a c :: oRd rb s p' :: ((K1 ++ K2) ++ M)))
    (by kernel_rfl) mixed (by kernel_rfl) (by kernel_rfl) (fun D e ds L hI => ?_) ?_ ?_ (Stab.of (.cons_cons _ (.cons_cons _ (List.nil_sublist _))) (hnewL _ _)) ?_
  · obtain ⟨_, _, _, _, _, bx, bz, g1, g2, _, _, _, _, rfl⟩ := hI
    refine Stab.of ?_ (fun b hb => ?_)
    · refine List.Sublist.trans ?_ (List.sublist_append_right _ _)
      refine List.Sublist.trans ?_ (List.sublist_append_right _ _)
      exact .cons_cons _ (.cons_cons _ (List.nil_sublist _))
    · rcases List.mem_append.1 hb with hb | hb
      · split at hb
        · rename_i h; rw [List.mem_singleton.1 hb]; exact g1 h
        · cases hb
      rcases List.mem_append.1 hb with hb | hb
      · split at hb
        · rename_i h; rw [List.mem_singleton.1 hb]; exact g2 h
        · cases hb
      · exact hnewL _ _ b hb
  · intro p hp D e ds L hD hdep hI
    obtain ⟨rfl, h11, h13, d4, d5, bx, bz, g1, g2, e12, e14, e2, e3, rfl⟩ := hI
    simp only [List.mem_cons, List.mem_nil_iff, or_false] at hp
    rcases hp with rfl | rfl | rfl | rfl
    all_goals simp only [List.mem_cons, List.mem_nil_iff, or_false, forall_eq_or_imp, forall_eq, false_implies, implies_true] at hD hdep
    · have n4 : D 4 = false := by cases h : D 4 with
        | false => rfl
        | true => rw [d4 h] at hD; cases hD
      simp (disch := omega) only [push_cast, Nat.reduceEqDiff, h11, h13]
      refine bs_23_1 (newI fun b hb hn => ?_)
      simp (disch := omega) only [push_cast, Nat.reduceEqDiff, h11, h13]
      refine ⟨_, fun w hw => hw, rfl, (by simpa [upd] using h11), (by simpa [upd] using h13), (by simp [n4]), (by simpa using d5), b, bz, (fun _ => hb), (by simpa using g2), (fun _ => by simp [upd]), (by simpa [upd] using e14), (by simp [n4]), (by simpa [upd] using e3), ?_⟩
      simp [hD]
    · have n5 : D 5 = false := by cases h : D 5 with
        | false => rfl
        | true => rw [d5 h] at hD; cases hD
      simp (disch := omega) only [push_cast, Nat.reduceEqDiff, h11, h13]
      refine bs_57_1 (newI fun b hb hn => ?_)
      simp (disch := omega) only [push_cast, Nat.reduceEqDiff, h11, h13]
      refine ⟨(if D 1 = true then [oFi bx x.1 a c] else []) ++ ([oSp b x.2.at_ a2 x.2.kids.length c2] ++ (oSp b5 x.2.at_ a2 x.2.kids.length c2 :: oFi b4 x.1 a c :: oRd rb s p' :: ((K1 ++ K2) ++ M))), fun w hw => ?_, rfl, (by simpa [upd] using h11), (by simpa [upd] using h13), (by simpa using d4), (by simp [n5]), bx, b, (by simpa using g1), (fun _ => hb), (by simpa [upd] using e12), (fun _ => by simp [upd]), (by simpa [upd] using e2), (by simp [n5]), ?_⟩
      · rw [hD] at hw
        refine hw.perm (?_ : List.Perm (oSp b x.2.at_ a2 x.2.kids.length c2 :: _) _)
        exact permC fun f => by simp only [wt_append, wt_cons, wt_nil, Bool.false_eq_true, if_false]; omega
      · simp
    · have h12 := e12 hdep
      simp (disch := omega) only [push_cast, Nat.reduceEqDiff, h12]
      exact ⟨_, fun w hw => hw, rfl, (by simpa [upd] using h11), (by simpa [upd] using h13), (fun _ => by simp [hdep]), (by simpa using d5), bx, bz, (by simpa using g1), (by simpa using g2), (by simpa [upd] using e12), (by simpa [upd] using e14), (fun _ => by simp [upd]), (by simpa [upd] using e3), by simp⟩
    · have h14 := e14 hdep
      simp (disch := omega) only [push_cast, Nat.reduceEqDiff, h14]
      exact ⟨_, fun w hw => hw, rfl, (by simpa [upd] using h11), (by simpa [upd] using h13), (by simpa using d4), (fun _ => by simp [hdep]), bx, bz, (by simpa using g1), (by simpa using g2), (by simpa [upd] using e12), (by simpa [upd] using e14), (by simpa [upd] using e2), (fun _ => by simp [upd]), by simp⟩
  · intro D e ds L hD hI
    obtain ⟨rfl, h11, h13, d4, d5, bx, bz, g1, g2, e12, e14, e2, e3, rfl⟩ := hI
    have k1 := hD 1 (by simp)
    have k3 := hD 3 (by simp)
    have h2 := e2 (hD 4 (by simp))
    have h3 := e3 (hD 5 (by simp))
    rw [k1, k3]
    simp (disch := omega) only [push_cast, Nat.reduceEqDiff, h2, h3]
    refine fun w' hw' => PRet.leaf _ p' ((oFi bx x.1 a c :: K1) ++ (oSp bz x.2.at_ a2 x.2.kids.length c2 :: K2)) (x := [x]) (q := q) (by rw [one, hr, PR.and_ok]) hq hp' ⟨some ⟨bx, 0, none⟩, 1, some ⟨bz, 0, none⟩, 1, oFi bx x.1 a c :: K1, oSp bz x.2.at_ a2 x.2.kids.length c2 :: K2, rfl, rfl, own_one hO1, ownP_one hO2⟩ (fun b hb => ?_) ?_
    · rcases List.mem_append.1 hb with hb | hb
      · rcases List.mem_cons.1 hb with rfl | hb
        · exact g1 k1
        · exact hK b (List.mem_append_left _ hb)
      · rcases List.mem_cons.1 hb with rfl | hb
        · exact g2 k3
        · exact hK b (List.mem_append_right _ hb)
    · refine Sy.left (A := [oSp b5 x.2.at_ a2 x.2.kids.length c2, oFi b4 x.1 a c]) (hw'.perm (?_ : List.Perm (oFi bx x.1 a c :: oSp bz x.2.at_ a2 x.2.kids.length c2 :: oSp b5 x.2.at_ a2 x.2.kids.length c2 :: oFi b4 x.1 a c :: oRd rb s p' :: ((K1 ++ K2) ++ M)) _)) (fun b hb => ?_)
      · exact permC fun f => by simp only [wt_append, wt_cons, wt_nil]; omega
      · simp only [List.mem_cons, List.mem_nil_iff, or_false] at hb
        rcases hb with rfl | rfl
        · exact hb5
        · exact hb4
  · simp (disch := omega) only [push_cast, Nat.reduceEqDiff]
    refine loadX_agg Shp.eq mem1 rfl rfl ?_
    simp (disch := omega) only [push_cast, Nat.reduceEqDiff]
    refine loadX_agg Shp.eq mem0 rfl rfl ?_
    simp (disch := omega) only [push_cast, Nat.reduceEqDiff]
    exact ⟨rfl, rfl, rfl, (by simp), (by simp), 0, 0, (by simp), (by simp), (by simp), (by simp), (by simp), (by simp), by simp⟩
end Go.Proofs.YtdmdgkpjjpijdaaDoor
