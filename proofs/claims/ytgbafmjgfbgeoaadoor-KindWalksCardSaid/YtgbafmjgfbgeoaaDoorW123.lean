/- YtgbafmjgfbgeoaaDoor: walks, part 122: a schema copied by the document's copy. -/
import Derived.Test.YtgbafmjgfbgeoaaDoorW116
import Derived.Test.YtgbafmjgfbgeoaaDoorW8
import Derived.Laws.CopyRow
import Derived.Test.YtgbafmjgfbgeoaaDoorW119
namespace Go.Proofs.YtgbafmjgfbgeoaaDoor
open Go Go.K
set_option maxRecDepth 100000
set_option linter.unusedVariables false
set_option linter.unusedSimpArgs false
set_option maxHeartbeats 1600000
/-- copy(d, s), d new and as long as s. -/
theorem copyRX {P : Program} {wb : World} {t ty e : TypeId} {b n c size : Nat} {cs xs : List Value} {a : Addr} {L0 : Own} {K : Value → World → Own → Prop} (hu : P.underlying t = some (.slice e)) (hs : (P.info? e).map (·.size) = some size) (hcs : cs.length = n * size) (hx : xs.length = n * size)
    (hr : CanRead wb ((b, .cells cs.toArray e (0, 0)) :: L0) a xs) (h1 : ∀ u ∈ xs, u.oneCell' = true) (hK : ∀ u, K u wb ((b, .cells xs.toArray e (0, 0)) :: L0)) :
    ValX P (Builtin.copy_ #[t, t] ty #[.slice (some ⟨b, 0, none⟩) n n, .slice (some a) n c]) wb ((b, .cells cs.toArray e (0, 0)) :: L0) (tag K) := by
  intro w hw
  have hbo := hw.own b _ (List.mem_cons_self ..)
  have hl := run_firstCells_some (P := P) w size n a n c xs hx (hr w hw)
  have hst := run_storeCells_at P b 0 e xs 0 cs.toArray w hbo (by simp; omega) h1
  refine ⟨_, { w with heap := w.heap.setIfInBounds b (.cells xs.toArray e (0, 0)) }, wb, _, ?_, ?_, hK (goInt n)⟩
  · cases hq : P.info? e with
    | none => simp [hq] at hs
    | some i =>
      have hi : i.size = size := by simpa [hq] using hs
      have hw2 : w.setRow b (cs.toArray.toList.take 0 ++ xs ++ cs.toArray.toList.drop (0 + xs.length)).toArray = { w with heap := w.heap.setIfInBounds b (.cells xs.toArray e (0, 0)) } := by
        unfold World.setRow
        congr 1
        apply Array.ext_getElem?
        intro j
        rw [Array.getElem?_modify, Array.getElem?_setIfInBounds]
        have hlt := (Array.getElem?_eq_some_iff.1 hbo).1
        split
        · rename_i hj; subst hj; rw [hbo]; simp [hlt, List.drop_of_length_le (show cs.length ≤ xs.length by omega)]
        · rfl
      rw [← hw2]
      simp [Builtin.copy_, run_underlying hu, Builtin.lenOf, sizeOf, typeInfo, hq, hi, hl]
      simp at hst
      rw [hst]
      simp
  · have h6 := hw.set (i := 0) (b := b) (o := .cells cs.toArray e (0, 0)) (.cells xs.toArray e (0, 0)) (by simp)
    simpa only [List.set_cons_zero] using h6
/-- copy(d, s), both empty. -/
theorem copyNX {P : Program} {wb : World} {L : Own} {t ty e : TypeId} {b c size : Nat} {sa : Option Addr} {K : Value → World → Own → Prop} (hu : P.underlying t = some (.slice e)) (hs : (P.info? e).map (·.size) = some size) (hK : ∀ u, K u wb L) :
    ValX P (Builtin.copy_ #[t, t] ty #[.slice (some ⟨b, 0, none⟩) 0 0, .slice sa 0 c]) wb L (tag K) := by
  intro w hw
  cases hq : P.info? e with
  | none => simp [hq] at hs
  | some i =>
    refine ⟨goInt 0, w, wb, L, ?_, hw, hK _⟩
    cases sa with
    | none => simp [Builtin.copy_, run_underlying hu, Builtin.lenOf, Builtin.firstCells, sizeOf, typeInfo, hq, storeCells]
    | some a =>
      have hl := run_firstCells_some (P := P) w i.size 0 a 0 c [] (by simp) (by simp)
      simp [Builtin.copy_, run_underlying hu, Builtin.lenOf, sizeOf, typeInfo, hq, storeCells, hl]
theorem infoNoteC : (Tryd.prog.info? 88).map (fun i => (i.zero, i.size, i.bytes)) = some (some (.agg #[str [], str []]), 2, 32) := by kernel_rfl
def notesC (nt : List NoteT) : List Value := nt.flatMap fun n => [str n.1, str n.2]
theorem notesC_len : ∀ nt : List NoteT, (notesC nt).length = nt.length * 2
  | [] => rfl
  | n :: l => by have := notesC_len l; simp only [notesC, List.flatMap_cons, List.length_append, List.length_cons, List.length_nil] at this ⊢; omega
theorem notesC_one (nt : List NoteT) : ∀ u ∈ notesC nt, u.oneCell' = true := fun u hu => by
  obtain ⟨n, _, hu⟩ := List.mem_flatMap.1 hu
  simp only [List.mem_cons, List.mem_nil_iff, or_false] at hu
  rcases hu with rfl | rfl <;> rfl
theorem notesC_get : ∀ {nt : List NoteT} {i : Nat} {n : NoteT}, nt[i]? = some n → ((notesC nt).drop (i * 2)).take 2 = [str n.1, str n.2]
  | [], i, n, h => by simp at h
  | m :: l, 0, n, h => by simp only [List.getElem?_cons_zero, Option.some.injEq] at h; subst h; rfl
  | m :: l, i + 1, n, h => by
    simp only [List.getElem?_cons_succ] at h
    have := notesC_get h
    rw [show (i + 1) * 2 = 2 + i * 2 by omega, ← List.drop_drop]
    exact this
theorem notes_at {w : World} {b : Nat} : ∀ {nt : List NoteT} {off : Nat}, nt ≠ [] → (∀ i n, nt[i]? = some n → At w b (off + i * 2) [str n.1, str n.2]) → At w b off (notesC nt)
  | [], _, h, _ => absurd rfl h
  | [n], off, _, h => by simpa [notesC] using h 0 n rfl
  | n :: m :: l, off, _, h => by
    have h1 := h 0 n rfl
    rw [Nat.zero_mul, Nat.add_zero] at h1
    have h2 := notes_at (nt := m :: l) (off := off + 2) (by simp) (fun i x hx => by
      have := h (i + 1) x (by simpa using hx)
      rw [show off + 2 + i * 2 = off + (i + 1) * 2 by omega]
      exact this)
    exact At.app h1 h2
theorem canRead_at {wb : World} {L : Own} {b off : Nat} {xs : List Value} (h : At wb b off xs) (hL : ∀ p ∈ L, wb.heap.size ≤ p.1) : CanRead wb L ⟨b, off, none⟩ xs := fun w hw j v hj => by
  have hat : At w b off xs := h.of_block (hw.rest b h.lt (out_of fun p hp => Nat.lt_of_lt_of_le h.lt (hL p hp)))
  have ha : (⟨b, off, none⟩ : Addr).add j = ⟨b, off + j, none⟩ := by
    unfold Addr.add; split
    · rename_i h0; subst h0; rfl
    · rfl
  rw [ha]
  exact hat.cell j v hj
/-- What CopySchema answers. -/
def CopySch (v : Value) (M : Own) (l : List Fld) (nt : List NoteT) : Prop := ∃ (a' : Option Addr) (nb : Nat) (K : Own), v = .agg #[.slice a' l.length l.length, .slice (some ⟨nb, 0, none⟩) nt.length nt.length] ∧ M = (nb, Obj.cells (notesC nt).toArray 88 (0, 0)) :: K ∧ OwS l K a' l.length
theorem copySchema_walk (w : World) (lo : Nat) (hlo : lo ≤ w.heap.size) (a : Option Addr) (l : List Fld) (c : Nat) (na : Option Addr) (nt : List NoteT) (nc : Nat) (hsc : SchAt w lo a l c na nt nc) (hl : l.length ≤ 1048576) (hwd : wideL 1048576 l = true) (hnt : nt.length ≤ 1048576) :
    Calls Tryd.prog 9 #[.agg #[.slice a l.length c, .slice na nt.length nc]] w (RetsN w (fun v M => CopySch v M l nt)) := by
  refine enterT (args := [.agg #[.slice a l.length c, .slice na nt.length nc]]) Tryd.func9 rfl Tryd.ntmps9 (congrArg Array.toList Tryd.results9) (by kernel_rfl) (by simp) (Sy.refl w) ?_
  simp (disch := omega) only [push_cast, Nat.reduceEqDiff]
  refine newI (fun b1 hb1 hn1 => ?_)
  simp (disch := omega) only [push_cast, Nat.reduceEqDiff]
  refine newI (fun b2 hb2 hn2 => ?_)
  simp (disch := omega) only [push_cast, Nat.reduceEqDiff]
  refine ldOne Shp.eq mem1 rfl ?_
  simp (disch := omega) only [push_cast, Nat.reduceEqDiff]
  refine makeFullX .i64 .i64 un_23 infoNoteC rfl (n := nt.length) (by omega) (by omega) (fun nb cs0 hnb hnbn hcs0 => ?_)
  simp (disch := omega) only [push_cast, Nat.reduceEqDiff]
  refine ldOne Shp.eq mem2 rfl ?_
  simp (disch := omega) only [push_cast, Nat.reduceEqDiff]
  have hL3 : ∀ x y z : Obj, ∀ p ∈ [(nb, x), (b2, y), (b1, z)], w.heap.size ≤ p.1 := fun x y z p hp => by
    simp only [List.mem_cons, List.mem_nil_iff, or_false] at hp
    rcases hp with rfl | rfl | rfl <;> assumption
  rcases Classical.em (nt = []) with rfl | hne
  · obtain rfl : cs0 = [] := List.eq_nil_of_length_eq_zero (by simpa using hcs0)
    refine copyNX un_23 (size := 2) (by kernel_rfl) (fun u => ?_)
    simp (disch := omega) only [push_cast, Nat.reduceEqDiff]
    refine ldOne Shp.eq mem2 rfl ?_
    simp (disch := omega) only [push_cast, Nat.reduceEqDiff]
    refine callV en_37 (callX_newR (fun w' hw' => copyFields_walk w' lo l a c (Nat.le_trans hlo hw'.size) (hsc.hr.sy hlo hw' (fun p hp => Nat.le_trans hlo (hL3 _ _ _ p hp))) hsc.hc hsc.hc2 hl hwd) (fun u M hM hMn hu => ?_))
    obtain ⟨a', rfl, hO⟩ := hu
    simp (disch := omega) only [push_cast, Nat.reduceEqDiff]
    refine storeX 1 rfl Siz.eq rfl rfl (by simp [Value.oneCell']) (by simp) ?_
    simp (disch := omega) only [push_cast, Nat.reduceEqDiff]
    refine loadX_agg Shp.eq mem1 rfl rfl ?_
    simp (disch := omega) only [push_cast, Nat.reduceEqDiff]
    exact fun w' hw' => ⟨_, (nb, Obj.cells #[] 88 (0, 0)) :: M, rfl, hw'.mid [_] [_, _] (fun p hp => by
      simp only [List.mem_cons, List.mem_nil_iff, or_false] at hp
      rcases hp with rfl | rfl <;> assumption), fun p hp => by
      rcases List.mem_cons.1 hp with rfl | hp
      · exact hnb
      · exact hM p hp, a', nb, M, rfl, rfl, hO⟩
  · rcases hsc.hn with h0 | ⟨ns, off, rfl, hnlo, hnr⟩
    · exact absurd h0 hne
    refine copyRX un_23 (size := 2) (by kernel_rfl) hcs0 (notesC_len nt) (canRead_at (notes_at hne fun i n hi => (hnr i n hi).2.2) (hL3 _ _ _)) (notesC_one nt) (fun u => ?_)
    simp (disch := omega) only [push_cast, Nat.reduceEqDiff]
    refine ldOne Shp.eq mem2 rfl ?_
    simp (disch := omega) only [push_cast, Nat.reduceEqDiff]
    refine callV en_37 (callX_newR (fun w' hw' => copyFields_walk w' lo l a c (Nat.le_trans hlo hw'.size) (hsc.hr.sy hlo hw' (fun p hp => Nat.le_trans hlo (hL3 _ _ _ p hp))) hsc.hc hsc.hc2 hl hwd) (fun u M hM hMn hu => ?_))
    obtain ⟨a', rfl, hO⟩ := hu
    simp (disch := omega) only [push_cast, Nat.reduceEqDiff]
    refine storeX 1 rfl Siz.eq rfl rfl (by simp [Value.oneCell']) (by simp) ?_
    simp (disch := omega) only [push_cast, Nat.reduceEqDiff]
    refine loadX_agg Shp.eq mem1 rfl rfl ?_
    simp (disch := omega) only [push_cast, Nat.reduceEqDiff]
    exact fun w' hw' => ⟨_, (nb, Obj.cells (notesC nt).toArray 88 (0, 0)) :: M, rfl, hw'.mid [_] [_, _] (fun p hp => by
      simp only [List.mem_cons, List.mem_nil_iff, or_false] at hp
      rcases hp with rfl | rfl <;> assumption), fun p hp => by
      rcases List.mem_cons.1 hp with rfl | hp
      · exact hnb
      · exact hM p hp, a', nb, M, rfl, rfl, hO⟩
/-- The copy of a schema lies as a schema does. -/
theorem CopySch.at_ {v : Value} {M : Own} {l : List Fld} {nt : List NoteT} (h : CopySch v M l nt) (hnl : ∀ (i : Nat) (n : NoteT), nt[i]? = some n → n.1.length ≤ 9223372036854775807 ∧ n.2.length ≤ 9223372036854775807) (hl : l.length ≤ 9223372036854775807) (hnt : nt.length ≤ 9223372036854775807) : ∃ (a' : Option Addr) (na' : Option Addr), v = schV a' l l.length na' nt nt.length ∧ ∀ (wb w : World) (L : Own), Sy wb L w → (∀ p ∈ M, p ∈ L) → SchAt w w.heap.size a' l l.length na' nt nt.length := by
  obtain ⟨a', nb, K, rfl, rfl, hO⟩ := h
  refine ⟨a', some ⟨nb, 0, none⟩, rfl, fun wb w L hw hK => ⟨hO.rd hw (fun p hp => hK p (.tail _ hp)), Nat.le_refl _, hl, ?_, Nat.le_refl _, hnt⟩⟩
  refine .inr ⟨nb, 0, rfl, hw.lt (hK _ (.head _)), fun i n hi => ⟨(hnl i n hi).1, (hnl i n hi).2, ⟨_, _, _, hw.own _ _ (hK _ (.head _)), ?_⟩⟩⟩
  rw [Nat.zero_add]
  exact notesC_get hi
end Go.Proofs.YtgbafmjgfbgeoaaDoor
/- YtgbafmjgfbgeoaaDoor: walks, part 124: rules for the row KindWalks. -/
namespace Go.Proofs.YtgbafmjgfbgeoaaDoor
open Go Go.K
set_option maxRecDepth 100000
set_option linter.unusedVariables false
set_option linter.unusedSimpArgs false
set_option maxHeartbeats 4000000
/-- append to a slice without room: new memory. -/
theorem appendFullA {P : Program} {wb : World} {L : Own} {t ty e : TypeId} {inf : TypeInfo} {z : Value} {n m c : Nat} {b a : Addr} {xs news : List Value} {K : Value → World → Own → Prop}
    (ht : P.underlying t = some (.slice e)) (hi : P.info? e = some inf) (hz : inf.zero = some z) (hxl : xs.length = n * inf.size) (hx : CanRead wb L b xs) (hl : news.length = m * inf.size) (hr : CanRead wb L a news) (hm : 0 < m) (h63 : n + m ≤ maxLen) (hbytes : (n + m) * inf.bytes ≤ 140737488355328)
    (hK : ∀ (b' cap : Nat) (cs : List Value), wb.heap.size ≤ b' → b' ∉ L.map (·.1) → n + m ≤ cap → cap ≤ maxLen → cs.take ((n + m) * inf.size) = xs ++ news → K (.slice (some ⟨b', 0, none⟩) (n + m) cap) wb ((b', .cells cs.toArray e (0, 0)) :: L)) :
    ValX P (Builtin.append_ #[t, t] ty #[.slice (some b) n n, .slice (some a) m c]) wb L (tag K) := by
  intro w hw
  have h63' : ((n + m : Nat) : Int) ≤ 9223372036854775807 := by simp only [maxLen] at h63; omega
  have hg : n < n + m := by omega
  have hrun := run_append_grow (P := P) w t ty e inf z ht hi hz b n n xs hxl (hx w hw) a m c news hl (hr w hw) hg h63' (growslice_fits hg hbytes)
  have hge := grownCap_ge w (n + m) n e
  have hle := grownCap_le_maxLen w (n + m) n e h63
  refine ⟨_, _, wb, _, hrun, hw.drewn.new _, ?_⟩
  have h1 := hK w.heap.size (grownCap w (n + m) n e) (xs ++ news ++ (Builtin.zeroCells z.cells (grownCap w (n + m) n e - (n + m))).toList) hw.size hw.fresh hge hle (by
    rw [Nat.add_mul, ← hxl, ← hl, ← List.length_append, List.take_left])
  have h2 : (xs ++ news ++ (Builtin.zeroCells z.cells (grownCap w (n + m) n e - (n + m))).toList).toArray = xs.toArray ++ news.toArray ++ Builtin.zeroCells z.cells (grownCap w (n + m) n e - (n + m)) := by simp
  rw [h2] at h1
  exact h1
/-- append(l[:n:n], x), l a list of numbers that lies elsewhere. -/
theorem appendStops {wb : World} {L : Own} {sa : Option Addr} {st : List Int} {b40 : Nat} {x : Int} {K : Value → World → Own → Prop} (hst : IntsAt wb sa st) (hsn : sa = none → st = []) (hsb : (st.length + 1) * 8 ≤ 140737488355328) (hLn : ∀ p ∈ (b40, Obj.cells #[i64 x] 3 (0, 0)) :: L, wb.heap.size ≤ p.1)
    (hK : ∀ (b' cap : Nat) (cs : List Value), wb.heap.size ≤ b' → st.length + 1 ≤ cap → cap ≤ maxLen → cs.take (st.length + 1) = (st ++ [x]).map i64 → K (.slice (some ⟨b', 0, none⟩) (st.length + 1) cap) wb ((b', .cells cs.toArray 3 (0, 0)) :: (b40, Obj.cells #[i64 x] 3 (0, 0)) :: L)) :
    ValX Tryd.prog (Builtin.append_ #[26, 26] 26 #[.slice sa st.length st.length, .slice (some ⟨b40, 0, none⟩) 1 1]) wb ((b40, Obj.cells #[i64 x] 3 (0, 0)) :: L) (tag K) := by
  have hcr : CanRead wb ((b40, Obj.cells #[i64 x] 3 (0, 0)) :: L) ⟨b40, 0, none⟩ [i64 x] := CanRead.of_own (e := 3) (cs := [i64 x]) (n := 1) (.head _) rfl rfl
  cases sa with
  | none =>
    have h0 := hsn rfl
    subst h0
    refine appendI un_26 infoInt rfl (m := 1) (news := [i64 x]) (n := 0) (xs := []) (M := (b40, Obj.cells #[i64 x] 3 (0, 0)) :: L) ⟨rfl, .inl ⟨rfl, rfl, rfl⟩⟩ rfl hcr (by simp [Value.oneCell']) (by simp only [maxLen]; omega) (by omega) (fun v5 L5 hro5 _ => ?_)
    obtain ⟨b, cap, cs, rfl, rfl, h1, h2, h3, h4, h5⟩ := hro5.some_of (by omega)
    exact hK b cap cs h1 h2 h3 (by simpa using h5)
  | some sd =>
    obtain ⟨inf, hinf, i1, i2, i3⟩ : ∃ inf, (Tryd.prog.info? 3) = some inf ∧ inf.zero = some (.int .i64 0) ∧ inf.size = 1 ∧ inf.bytes = 8 := by
      have := infoInt
      cases hh : (Tryd.prog.info? 3) with
      | none => rw [hh] at this; cases this
      | some inf => rw [hh] at this; simp at this; exact ⟨inf, rfl, this.1, this.2.1, this.2.2⟩
    have hxr : CanRead wb ((b40, Obj.cells #[i64 x] 3 (0, 0)) :: L) sd (st.map i64) := by
      rcases hst with rfl | ⟨sb, so, hsd, hall⟩
      · intro w hw j v hj; simp at hj
      · cases hsd
        intro w hw j v hj
        rw [List.getElem?_map] at hj
        obtain ⟨q, hq, rfl⟩ := Option.map_eq_some_iff.1 hj
        have hat := hall j q hq
        have hat2 : At w sb (so + j) [i64 q] := hat.of_block (hw.rest sb hat.lt (out_of fun p hp => Nat.lt_of_lt_of_le hat.lt (hLn p hp)))
        have ha : (⟨sb, so, none⟩ : Addr).add j = ⟨sb, so + j, none⟩ := by
          unfold Addr.add; split
          · rename_i h0; subst h0; rfl
          · rfl
        rw [ha]
        have := hat2.cell 0 (i64 q) rfl
        simpa using this
    refine appendFullA un_26 hinf i1 (by rw [i2]; simp) hxr (by rw [i2]; rfl) hcr (by omega) (by simp only [maxLen]; omega) (by rw [i3]; exact hsb) (fun b' cap cs h1 _ h2 h3 h4 => hK b' cap cs h1 h2 h3 ?_)
    rw [i2] at h4
    simpa using h4
/-- The end of a function in which some loops over functions have ended. -/
theorem leaveL_all {P : Program} {rs : List ResultVar} {R : Ending → World → Prop} {wb : World} {e : Env} : ∀ (DS : List Nat) (L : Own), DS.Nodup → (∀ d ∈ DS, (d, Obj.deferred (some [])) ∈ L) → (∀ L', (∀ p ∈ L', p ∈ L ∨ (p.1 ∈ DS ∧ ∃ p' ∈ L, p'.1 = p.1)) → (∀ p ∈ L, p.1 ∉ DS → p ∈ L') → leaveL P rs R [] wb e L') → leaveL P rs R (DS.map fun d => { target := .collected d, args := #[] }) wb e L
  | [], L, _, _, h => h L (fun p hp => .inl hp) (fun p hp _ => hp)
  | d :: DS, L, hnd, hm, h => by
    obtain ⟨i, hi⟩ := List.mem_iff_getElem?.1 (hm d (.head _))
    have hnd2 := List.nodup_cons.1 hnd
    refine ⟨d, i, rfl, hi, leaveL_all DS _ hnd2.2 (fun d' hd' => ?_) (fun L' h1 h2 => h L' (fun p hp => ?_) (fun p hp hpn => ?_))⟩
    · have hne : d' ≠ d := by rintro rfl; exact hnd2.1 hd'
      obtain ⟨j, hj⟩ := List.mem_iff_getElem?.1 (hm d' (.tail _ hd'))
      refine List.mem_iff_getElem?.2 ⟨j, ?_⟩
      rw [List.getElem?_set_ne (by rintro rfl; rw [hi] at hj; cases hj; exact hne rfl)]
      exact hj
    · rcases h1 p hp with hq | ⟨hq1, p', hq2, hq3⟩
      · rcases List.mem_or_eq_of_mem_set hq with hq | hq
        · exact .inl hq
        · exact .inr ⟨by rw [hq]; exact .head _, _, hm d (.head _), by rw [hq]⟩
      · refine .inr ⟨.tail _ hq1, ?_⟩
        rcases List.mem_or_eq_of_mem_set hq2 with hq | hq
        · exact ⟨p', hq, hq3⟩
        · exact ⟨_, hm d (.head _), by rw [← hq3, hq]⟩
    · refine h2 p ?_ (fun hq => hpn (.tail _ hq))
      obtain ⟨j, hj⟩ := List.mem_iff_getElem?.1 hp
      refine List.mem_iff_getElem?.2 ⟨j, ?_⟩
      rw [List.getElem?_set_ne (by rintro rfl; rw [hi] at hj; cases hj; exact hpn (.head _))]
      exact hj
end Go.Proofs.YtgbafmjgfbgeoaaDoor
/- YtgbafmjgfbgeoaaDoor: walks, part 123: the row KindWalks, up to its loop. -/
namespace Go.Proofs.YtgbafmjgfbgeoaaDoor
open Go Go.K
set_option maxRecDepth 100000
set_option linter.unusedVariables false
set_option linter.unusedSimpArgs false
set_option maxHeartbeats 4000000
/-- The document's nodes lie among these blocks. -/
structure NodesIn (w : World) (lo : Nat) (ns : List FNode) (va : Option Addr) (vc : Nat) (L : Own) : Prop where
  hp : 0 < ns.length → ∃ (rb : Nat) (ncs xs : List Value) (A : Own), va = some ⟨rb, 0, none⟩ ∧ (rb, Obj.cells ncs.toArray 41 (0, 0)) ∈ L ∧ ncs.take (ns.length * 10) = xs ∧ NodesC w lo A ns xs ∧ ∀ p ∈ A, p ∈ L
theorem NodesIn.mono {w : World} {lo : Nat} {ns : List FNode} {va : Option Addr} {vc : Nat} {L L' : Own} (h : NodesIn w lo ns va vc L) (hL : ∀ p ∈ L, p ∈ L') : NodesIn w lo ns va vc L' := ⟨fun hp => by
  obtain ⟨rb, ncs, xs, A, h1, h2, h3, h4, h5⟩ := h.hp hp
  exact ⟨rb, ncs, xs, A, h1, hL _ h2, h3, h4, fun p hp => hL _ (h5 p hp)⟩⟩
/-- Behind the copy of the schema. -/
structure Kw1 (w : World) (lo : Nat) (a : Option Addr) (l : List Fld) (c : Nat) (na : Option Addr) (nt : List NoteT) (nc : Nat) (ns : List FNode) (sv : Value) (va : Option Addr) (vc b2 b4 b5 b6 : Nat) (wb : World) (e : Env) (ds : List Deferred) (L : Own) : Prop where
  hw : wb = w
  hds : ds = []
  o : ∃ (X K : Own) (a' : Option Addr) (c' : Nat) (na' : Option Addr) (nc' : Nat), L = X ++ K ∧ (∀ p ∈ X ++ K, w.heap.size ≤ p.1) ∧ oV b4 (.bool false) 4 ∈ X ∧ oS b2 a l c na nt nc ∈ X ∧ oV b5 (.slice va ns.length vc) 28 ∈ X ∧ oS b6 a' l c' na' nt nc' ∈ X ∧ NodesIn w lo ns va vc X ∧
    (0 < ns.length → OwS l K a' c') ∧ ∀ w' L', Sy w L' w' → (∀ p ∈ L', w.heap.size ≤ p.1) → (∀ p ∈ X ++ K, p ∈ L') → SchAt w' w'.heap.size a' l c' na' nt nc'
  h1 : e 1 = sv
  h2 : e 2 = .pointer (some ⟨b2, 0, none⟩)
  h4 : e 4 = .pointer (some ⟨b4, 0, none⟩)
  h5 : e 5 = .pointer (some ⟨b5, 0, none⟩)
  h6 : e 6 = .pointer (some ⟨b6, 0, none⟩)
/-- Behind all that is done ahead of the loop. -/
structure Kw2 (w : World) (lo : Nat) (a : Option Addr) (l : List Fld) (c : Nat) (na : Option Addr) (nt : List NoteT) (nc : Nat) (ns : List FNode) (sv : Value) (va : Option Addr) (vc b2 b4 b5 bk : Nat) (ka : Option Addr) (kc : Nat) (M : Own) (wb : World) (e : Env) (ds : List Deferred) (L : Own) : Prop where
  hw : wb = w
  hds : ds = []
  hn : ∀ p ∈ L, w.heap.size ≤ p.1
  m4 : oV b4 (.bool false) 4 ∈ L
  m2 : oS b2 a l c na nt nc ∈ L
  m5 : oV b5 (.slice va ns.length vc) 28 ∈ L
  nd : NodesIn w lo ns va vc L
  mM : ∀ p ∈ M, p ∈ L
  h1 : e 1 = sv
  h2 : e 2 = .pointer (some ⟨b2, 0, none⟩)
  h4 : e 4 = .pointer (some ⟨b4, 0, none⟩)
  h5 : e 5 = .pointer (some ⟨b5, 0, none⟩)
  h7 : e 7 = .func (.func 40) #[] #[.pointer (some ⟨bk, 0, none⟩)]
/-- The loop over the stops. -/
structure KwL (w0 : World) (LL : Own) (n b2 b4 b5 b41 cap bk : Nat) (i : Nat) (wb : World) (e : Env) (ds : List Deferred) (L : Own) : Prop where
  hw : wb = w0
  o : ∃ DS : List Nat, ds = DS.map (fun d => { target := .collected d, args := #[] }) ∧ L = DS.map (fun d => (d, Obj.deferred (some []))) ++ LL ∧ DS.Nodup ∧ (∀ d ∈ DS, w0.heap.size ≤ d) ∧ ∀ d ∈ DS, d ∉ LL.map (·.1)
  hi : i ≤ n
  h2 : e 2 = .pointer (some ⟨b2, 0, none⟩)
  h4 : e 4 = .pointer (some ⟨b4, 0, none⟩)
  h5 : e 5 = .pointer (some ⟨b5, 0, none⟩)
  h7 : e 7 = .func (.func 40) #[] #[.pointer (some ⟨bk, 0, none⟩)]
  h41 : e 41 = .slice (some ⟨b41, 0, none⟩) n cap
  h42 : e 42 = i64 n
  h43 : e 43 = i64 i
/-- Behind a walk with a stop. -/
structure KwR (w0 : World) (MM : Own) (n : Nat) (stop : Int) (ds0 : List Deferred) (DL : Own) (b2 b4 b5 b9 b10 b41 cap bk sn i : Nat) (wb : World) (e : Env) (ds : List Deferred) (L : Own) : Prop where
  hw : wb = w0
  o : ∃ (d lr : Nat) (x : Obj) (cn : Nat), w0.heap.size ≤ d ∧ w0.heap.size ≤ lr ∧ d ∉ MM.map (·.1) ∧ ds = { target := .collected d, args := #[] } :: ds0 ∧ L = (lr, x) :: (d, Obj.deferred (some [])) :: oV b10 (i64 (cn : Nat)) 3 :: MM ∧ cn ≤ n ∧ (cn = n ∨ ((cn : Int) = max (stop + 1) 1 ∧ stop < 9223372036854775807))
  h2 : e 2 = .pointer (some ⟨b2, 0, none⟩)
  h4 : e 4 = .pointer (some ⟨b4, 0, none⟩)
  h5 : e 5 = .pointer (some ⟨b5, 0, none⟩)
  h7 : e 7 = .func (.func 40) #[] #[.pointer (some ⟨bk, 0, none⟩)]
  h9 : e 9 = .pointer (some ⟨b9, 0, none⟩)
  h10 : e 10 = .pointer (some ⟨b10, 0, none⟩)
  h41 : e 41 = .slice (some ⟨b41, 0, none⟩) sn cap
  h42 : e 42 = i64 sn
  h43 : e 43 = i64 i
theorem max_i64A {P : Program} {K : Value → Prop} (ats : Array TypeId) (ty : TypeId) (x y : Int) (h : K (i64 (max x y))) : PureX P (Builtin.max_ ats ty #[i64 x, i64 y]) (tag K) := by
  refine ⟨_, fun w => ?_, h⟩
  have h0 : Builtin.max_ ats ty #[i64 x, i64 y] = Builtin.max2 (i64 x) (i64 y) := by
    show List.foldlM Builtin.max2 (i64 x) [i64 y] = _
    simp
  rw [h0]
  show (pure (Value.int .i64 (if y > x then y else x)) : Sem Value).run P w = _
  have h1 : (if y > x then y else x) = max x y := by
    rw [Int.max_def]
    split <;> split <;> omega
  rw [h1]
  rfl
/-- The numbers of a way are written over. -/
structure Kw4 (w0 : World) (RR : Own) (np cap bw b2 b5 b9 b10 b12 : Nat) (j : Nat) (wb : World) (e : Env) (ds : List Deferred) (L : Own) : Prop where
  hw : wb = w0
  hds : ds = []
  o : ∃ cs : List Value, L = (bw, Obj.cells cs.toArray 3 (0, 0)) :: RR ∧ cs.length = cap
  hj : j ≤ np
  h2 : e 2 = .pointer (some ⟨b2, 0, none⟩)
  h5 : e 5 = .pointer (some ⟨b5, 0, none⟩)
  h9 : e 9 = .pointer (some ⟨b9, 0, none⟩)
  h10 : e 10 = .pointer (some ⟨b10, 0, none⟩)
  h11 : e 11 = .slice (some ⟨bw, 0, none⟩) np cap
  h12 : e 12 = .pointer (some ⟨b12, 0, none⟩)
  h75 : e 75 = i64 np
  h76 : e 76 = i64 j
theorem SchAt.weaken {w : World} {lo lo' : Nat} {a : Option Addr} {l : List Fld} {c : Nat} {na : Option Addr} {nt : List NoteT} {nc : Nat} (h : SchAt w lo a l c na nt nc) (hle : lo ≤ lo') : SchAt w lo' a l c na nt nc :=
  ⟨h.hr.weaken hle, h.hc, h.hc2, by
    rcases h.hn with h | ⟨b, off, h1, h2, h3⟩
    · exact .inl h
    · exact .inr ⟨b, off, h1, Nat.lt_of_lt_of_le h2 hle, h3⟩, h.hnc, h.hnc2⟩
theorem few_notes {l : List Fld} {nt : List NoteT} (h : mayP l nt = true) : nt.length ≤ 16 := by
  unfold mayP checkP at h
  by_cases h1 : 32 < l.length
  · rw [if_pos h1] at h; simp at h
  rw [if_neg h1] at h
  by_cases h2 : 16 < nt.length
  · rw [if_pos h2] at h; simp at h
  omega
theorem nodes_may {l : List Fld} {nt : List NoteT} (h : 0 < (nodesP l nt).length) : mayP l nt = true := by
  unfold nodesP at h
  by_cases hm : mayP l nt = true
  · exact hm
  · rw [if_neg hm] at h; simp at h
theorem kindWalks_walk (w : World) (hs : SaysAt w) (lo : Nat) (hlo : lo ≤ w.heap.size) (a : Option Addr) (l : List Fld) (c : Nat) (na : Option Addr) (nt : List NoteT) (nc : Nat) (hsc : SchAt w lo a l c na nt nc) (sa : Option Addr) (st : List Int) (sc : Nat) (hst : IntsAt w sa st) (hsn : sa = none → st = []) (hsc1 : st.length ≤ sc) (hsc2 : sc ≤ 9223372036854775807) (hsr : ∀ q ∈ st, -9223372036854775808 ≤ q ∧ q < 9223372036854775808) (hsb : (st.length + 1) * 8 ≤ 140737488355328) :
    Calls Tryd.prog 3 #[schV a l c na nt nc, .slice sa st.length sc] w (Rets w (Is (.bool true))) := by
  obtain ⟨ns, hns⟩ : ∃ ns, ns = nodesP l nt := ⟨_, rfl⟩
  have hnsw : ns = nd 64 [] false (walkL l nt) := by
    rw [hns]
    unfold nodesP walkL
    by_cases hm : mayP l nt = true
    · rw [if_pos hm, if_pos hm, nd_dpA 64 [] false l (may_dp hm)]
    · rw [if_neg hm, if_neg hm]; rfl
  have hokn : ∀ x ∈ ns, okS x.f = true := fun x hx => by
    have hm : mayP l nt = true := nodes_may (by rw [← hns]; exact List.length_pos_of_mem hx)
    have hwl : walkL l nt = l := by unfold walkL; rw [hm]; rfl
    rw [hnsw, hwl] at hx
    exact nd_okA 64 [] false l (small_may hm).1 x hx
  have h256 : ns.length ≤ 256 := by
    rw [hns]
    unfold nodesP
    by_cases hm : mayP l nt = true
    · rw [if_pos hm]; exact few_nodes hm
    · rw [if_neg hm]; simp
  refine enterM (args := [schV a l c na nt nc, .slice sa st.length sc]) Tryd.func3 rfl Tryd.ntmps3 (congrArg Array.toList Tryd.results3) (by kernel_rfl) (by simp) (Sy.refl w) ?_
  simp (disch := omega) only [push_cast, Nat.reduceEqDiff, schV]
  refine newI (fun b2 hb2 hn2 => ?_)
  simp (disch := omega) only [push_cast, Nat.reduceEqDiff]
  refine newI (fun b4 hb4 hn4 => ?_)
  simp (disch := omega) only [push_cast, Nat.reduceEqDiff]
  have hL2 : ∀ x y : Obj, ∀ p ∈ [(b4, x), (b2, y)], w.heap.size ≤ p.1 := fun x y p hp => by
    simp only [List.mem_cons, List.mem_nil_iff, or_false] at hp
    rcases hp with rfl | rfl <;> assumption
  have k1 := fun w' (L' : Own) (hL' : ∀ p ∈ L', w.heap.size ≤ p.1) hw' => hsc.sy hlo (w' := w') (M := L') hw' (fun p hp => Nat.le_trans hlo (hL' p hp))
  refine callV en_7 (callX_is (fun w' hw' => awake_walk w' (hs.mono hw' (hL2 _ _))) ?_)
  simp (disch := omega) only [push_cast, Nat.reduceEqDiff]
  rw [V_cond]
  simp (disch := omega) only [push_cast, Nat.reduceEqDiff]
  refine condX_b (fun hm => by cases hm) (fun _ => ?_)
  simp (disch := omega) only [push_cast, Nat.reduceEqDiff]
  refine loadX_agg Shp.eq mem1 rfl rfl ?_
  simp (disch := omega) only [push_cast, Nat.reduceEqDiff]
  refine callV en_8 (callX_own (fun w' hw' => nodesF_walk w w' _ hw' (hL2 _ _) lo hlo a l c na nt nc hsc) (fun v L1 hS => ?_))
  obtain ⟨A, B, xs, hro, hno, hAB, hLAB⟩ := hS
  rw [← hns] at hro hno
  obtain ⟨va, vc, rfl⟩ := hro.is_slice
  have hL1n := hro.new hAB
  have m4 : oV b4 (.bool false) 4 ∈ L1 := hro.mem (hLAB _ mem0)
  have m2 : oS b2 a l c na nt nc ∈ L1 := hro.mem (hLAB _ mem1)
  have hnd1 : NodesIn w lo ns va vc L1 := ⟨fun hp => by
    obtain ⟨rb, cap, cs, h1, h2, _, _, _, _, h7⟩ := hro.some_of hp
    injection h1 with h11 h12 h13
    exact ⟨rb, cs, xs, A, h11, by rw [h2]; exact .head _, h7, hno, fun p hp => hro.mem (List.mem_append_left _ hp)⟩⟩
  simp (disch := omega) only [push_cast, Nat.reduceEqDiff]
  refine newI (fun b5 hb5 hn5 => ?_)
  simp (disch := omega) only [push_cast, Nat.reduceEqDiff]
  refine storeX 0 rfl Siz.eq rfl rfl (by simp [Value.oneCell']) (by simp) ?_
  simp (disch := omega) only [push_cast, Nat.reduceEqDiff]
  refine loadX_agg Shp.eq (.tail _ m2) rfl rfl ?_
  simp (disch := omega) only [push_cast, Nat.reduceEqDiff]
  refine newI (fun b6 hb6 hn6 => ?_)
  simp (disch := omega) only [push_cast, Nat.reduceEqDiff]
  refine storeX 0 rfl Siz.eq rfl rfl (by simp [Value.oneCell']) (by simp) ?_
  simp (disch := omega) only [push_cast, Nat.reduceEqDiff]
  refine ldOne Shp.eq mem1 rfl ?_
  simp (disch := omega) only [push_cast, Nat.reduceEqDiff]
  have hL2n : ∀ p ∈ oS b6 a l c na nt nc :: oV b5 (.slice va ns.length vc) 28 :: L1, w.heap.size ≤ p.1 := fun p hp => by
    rcases List.mem_cons.1 hp with rfl | hp
    · exact hb6
    rcases List.mem_cons.1 hp with rfl | hp
    · exact hb5
    · exact hL1n p hp
  refine cutV (Kw1 w lo a l c na nt nc ns (.slice sa st.length sc) va vc b2 b4 b5 b6) ?_ ?_
  · rw [V_cond]
    simp (disch := omega) only [push_cast, Nat.reduceEqDiff]
    refine condX_d (fun hpos => ?_) (fun hpos => ?_)
    · have hpos' : 0 < ns.length := by omega
      have hm : mayP l nt = true := nodes_may (by rw [← hns]; exact hpos')
      have hsm := small_may hm
      simp (disch := omega) only [push_cast, Nat.reduceEqDiff]
      refine loadX_agg Shp.eq (.tail _ (.tail _ m2)) rfl rfl ?_
      simp (disch := omega) only [push_cast, Nat.reduceEqDiff]
      refine callV en_9 (callX_newR (fun w' hw' => copySchema_walk w' lo (Nat.le_trans hlo hw'.size) a l c na nt nc (k1 w' _ hL2n hw') (by omega) (wideL_le (by omega) (okT_wide _ hsm.1)) (by have := few_notes hm; omega)) (fun u Mc hMc hMcn hu => ?_))
      have hat := hu.at_ (fun i n hi => by
        rcases hsc.hn with h | ⟨b, off, _, _, h⟩
        · rw [h] at hi; simp at hi
        · exact ⟨(h i n hi).1, (h i n hi).2.1⟩) (by omega) (by have := few_notes hm; omega)
      obtain ⟨a', nb, K, rfl, rfl, hO⟩ := hu
      obtain ⟨a2, na2, he2, hat⟩ := hat
      simp only [schV, Value.agg.injEq] at he2
      obtain ⟨rfl, rfl⟩ : a2 = a' ∧ na2 = some ⟨nb, 0, none⟩ := by simpa [eq_comm] using he2
      simp (disch := omega) only [push_cast, Nat.reduceEqDiff]
      refine storeX 0 rfl Siz.eq rfl rfl (by simp [Value.oneCell']) (by simp) ?_
      simp (disch := omega) only [push_cast, Nat.reduceEqDiff]
      refine ⟨rfl, rfl, ⟨oS b6 a2 l l.length (some ⟨nb, 0, none⟩) nt nt.length :: oV b5 (.slice va ns.length vc) 28 :: (L1 ++ [(nb, Obj.cells (notesC nt).toArray 88 (0, 0))]), K, a2, l.length, some ⟨nb, 0, none⟩, nt.length, by simp, fun p hp => ?_, .tail _ (.tail _ (List.mem_append_left _ m4)), .tail _ (.tail _ (List.mem_append_left _ m2)), .tail _ (.head _), .head _, hnd1.mono fun p hp => .tail _ (.tail _ (List.mem_append_left _ hp)), fun _ => hO, fun w' L' hw' hL'n hL' => hat w w' L' hw' fun p hp => hL' p ?_⟩, rfl, rfl, rfl, rfl, rfl⟩
      · simp only [List.mem_append, List.mem_cons, List.mem_nil_iff, or_false] at hp
        rcases hp with (rfl | rfl | hp | rfl) | hp
        · exact hb6
        · exact hb5
        · exact hL1n p hp
        · exact hMc _ (.head _)
        · exact hMc _ (.tail _ hp)
      · rcases List.mem_cons.1 hp with rfl | hp
        · simp
        · simp [hp]
    · simp (disch := omega) only [push_cast, Nat.reduceEqDiff]
      exact ⟨rfl, rfl, ⟨oS b6 a l c na nt nc :: oV b5 (.slice va ns.length vc) 28 :: L1, [], a, c, na, nc, by simp, by simpa using hL2n, .tail _ (.tail _ m4), .tail _ (.tail _ m2), .tail _ (.head _), .head _, hnd1.mono fun p hp => .tail _ (.tail _ hp), fun h => absurd h (by omega), fun w' L' hw' hL'n hL' => (k1 w' _ hL'n hw').weaken (Nat.le_trans hlo hw'.size)⟩, rfl, rfl, rfl, rfl, rfl⟩
  clear hL2n m4 m2 hnd1 hL1n hro hno hAB hLAB
  rintro wb e ds L ⟨rfl, rfl, ⟨X, K, a', c', na', nc', rfl, hXn, m4, m2, m5, m6, hnd, hOK, hat⟩, e1, e2, e4, e5, e6⟩
  simp (disch := omega) only [push_cast, Nat.reduceEqDiff, e1, e2, e4, e5, e6]
  refine loadX_agg Shp.eq (List.mem_append_left _ m6) rfl rfl ?_
  simp (disch := omega) only [push_cast, Nat.reduceEqDiff, e1, e2, e4, e5, e6]
  refine callV en_10 (callX_newR (fun w' hw' => walk_walk w' (hs.mono hw' hXn) w'.heap.size (Nat.le_refl _) a' l c' na' nt nc' (hat w' _ hw' hXn (fun p hp => hp))) (fun v M hM hMn hS => ?_))
  obtain ⟨bk, ka, kc, rfl, hbk, hkc, hkc2, hrx⟩ := hS
  simp (disch := omega) only [push_cast, Nat.reduceEqDiff, e1, e2, e4, e5, e6]
  rw [bin_func_nilA]
  simp (disch := omega) only [push_cast, Nat.reduceEqDiff, e1, e2, e4, e5, e6]
  rw [V_cond]
  simp (disch := omega) only [push_cast, Nat.reduceEqDiff, e1, e2, e4, e5, e6]
  refine ldOne Shp.eq (List.mem_append_left _ (List.mem_append_left _ m5)) rfl ?_
  simp (disch := omega) only [push_cast, Nat.reduceEqDiff, e1, e2, e4, e5, e6]
  have hXMn : ∀ p ∈ X ++ M, wb.heap.size ≤ p.1 := fun p hp => by
    rcases List.mem_append.1 hp with hp | hp
    · exact hXn p (List.mem_append_left _ hp)
    · exact hM p hp
  refine cutV (Kw2 wb lo a l c na nt nc ns (.slice sa st.length sc) va vc b2 b4 b5 bk ka kc M) ?_ ?_
  · rw [V_cond]
    simp (disch := omega) only [push_cast, Nat.reduceEqDiff, e1, e2, e4, e5, e6]
    refine condX_d (fun hpos => ?_) (fun hpos => ?_)
    · have hpos' : 0 < ns.length := by omega
      simp (disch := omega) only [push_cast, Nat.reduceEqDiff, e1, e2, e4, e5, e6]
      refine ldOne Shp.eq (List.mem_append_left _ (List.mem_append_left _ m6)) rfl ?_
      simp (disch := omega) only [push_cast, Nat.reduceEqDiff, e1, e2, e4, e5, e6]
      have hnewS : ∀ p ∈ K ++ (X ++ M), wb.heap.size ≤ p.1 := fun p hp => by
        rcases List.mem_append.1 hp with hp | hp
        · exact hXn p (List.mem_append_right _ hp)
        · exact hXMn p hp
      refine callV en_11 (callX_base (fun w' hw' => spoil_walk wb w' l K (X ++ M) a' c' [115, 112, 111, 105, 108, 116] (by simp) (hOK hpos') (hw'.perm (by rw [List.append_assoc]; exact List.perm_append_comm_assoc X K M)) hnewS) ?_)
      rintro e' w' ⟨rfl, l2, K3, q1, q2, q3, q6, q4, q5⟩
      refine ⟨_, K3 ++ (X ++ M), rfl, q4, ?_⟩
      simp (disch := omega) only [push_cast, Nat.reduceEqDiff, e1, e2, e4, e5, e6]
      exact ⟨rfl, rfl, fun p hp => by
        rcases List.mem_append.1 hp with hp | hp
        · exact q5 p hp
        · exact hXMn p hp, List.mem_append_right _ (List.mem_append_left _ m4), List.mem_append_right _ (List.mem_append_left _ m2), List.mem_append_right _ (List.mem_append_left _ m5), hnd.mono fun p hp => List.mem_append_right _ (List.mem_append_left _ hp), fun p hp => List.mem_append_right _ (List.mem_append_right _ hp), e1, e2, e4, e5, rfl⟩
    · simp (disch := omega) only [push_cast, Nat.reduceEqDiff, e1, e2, e4, e5, e6]
      exact ⟨rfl, rfl, fun p hp => by
        rcases List.mem_append.1 hp with hp | hp
        · exact hXn p hp
        · exact hM p hp, List.mem_append_left _ (List.mem_append_left _ m4), List.mem_append_left _ (List.mem_append_left _ m2), List.mem_append_left _ (List.mem_append_left _ m5), hnd.mono fun p hp => List.mem_append_left _ (List.mem_append_left _ hp), fun p hp => List.mem_append_right _ hp, e1, e2, e4, e5, rfl⟩
  clear hXMn hOK hat hXn hnd m4 m2 m5 m6 e1 e2 e4 e5 e6 e
  rintro wb e ds L ⟨rfl, rfl, hLn, m4, m2, m5, hnd, mM, e1, e2, e4, e5, e7⟩
  simp (disch := omega) only [push_cast, Nat.reduceEqDiff, e1, e2, e4, e5, e7, Int.toNat_natCast]
  refine bs_26_1 (newI fun b40 hb40 hn40 => ?_)
  simp (disch := omega) only [push_cast, Nat.reduceEqDiff, e1, e2, e4, e5, e7]
  have hL40 : ∀ p ∈ (b40, Obj.cells #[i64 1048576] 3 (0, 0)) :: L, wb.heap.size ≤ p.1 := fun p hp => by
    rcases List.mem_cons.1 hp with rfl | hp
    · exact hb40
    · exact hLn p hp
  refine appendStops hst hsn hsb hL40 (fun b41 cap scs hb41 hcap1 hcap2 hscs => ?_)
  simp (disch := omega) only [push_cast, Nat.reduceEqDiff, e1, e2, e4, e5, e7]
  obtain ⟨LL, hLL⟩ : ∃ LL : Own, LL = (b41, Obj.cells scs.toArray 3 (0, 0)) :: (b40, Obj.cells #[i64 1048576] 3 (0, 0)) :: L := ⟨_, rfl⟩
  have hLLn : ∀ p ∈ LL, wb.heap.size ≤ p.1 := fun p hp => by
    rw [hLL] at hp
    rcases List.mem_cons.1 hp with rfl | hp
    · exact hb41
    · exact hL40 p hp
  have hsub : ∀ p ∈ L, p ∈ LL := fun p hp => by rw [hLL]; exact .tail _ (.tail _ hp)
  have m41 : (b41, Obj.cells scs.toArray 3 (0, 0)) ∈ LL := by rw [hLL]; exact .head _
  have m4 := hsub _ m4
  have m2 := hsub _ m2
  have m5 := hsub _ m5
  have hnd := hnd.mono hsub
  have mM : ∀ p ∈ M, p ∈ LL := fun p hp => hsub p (mM p hp)
  obtain ⟨sq, hsq⟩ : ∃ sq : List Int, sq = st ++ [1048576] := ⟨_, rfl⟩
  have hsql : sq.length = st.length + 1 := by rw [hsq]; simp
  have hsqr : ∀ q ∈ sq, -9223372036854775808 ≤ q ∧ q < 9223372036854775808 := fun q hq => by
    rw [hsq] at hq
    rcases List.mem_append.1 hq with hq | hq
    · exact hsr q hq
    · rw [List.mem_singleton.1 hq]; omega
  rw [← hsq] at hscs
  rw [V_block]
  simp (disch := omega) only [push_cast, Nat.reduceEqDiff, e1, e2, e4, e5, e7]
  refine loopW (G := Nat) (KwL wb LL sq.length b2 b4 b5 b41 cap bk) (fun i => sq.length - i) 0 LL (fun w hw => by rw [hLL]; exact hw) (by kernel_rfl) ⟨rfl, ⟨[], rfl, rfl, .nil, by simp, by simp⟩, by omega, e2, e4, e5, e7, by rw [hsql]; rfl, by rw [hsql]; rfl, rfl⟩ ?_
  clear e1 e2 e4 e5 e7 e
  rintro i wb e ds L' ⟨rfl, ⟨DS, rfl, rfl, hDn, hDs, hDL⟩, hi, e2, e4, e5, e7, e41, e42, e43⟩
  simp (disch := omega) only [push_cast, Nat.reduceEqDiff, e2, e4, e5, e7, e41, e42, e43, Nat.mul_one]
  rw [V_cond]
  simp (disch := omega) only [push_cast, Nat.reduceEqDiff, e2, e4, e5, e7, e41, e42, e43, Nat.mul_one]
  refine condX_d (fun hlt => ?_) (fun hge => ?_)
  · refine Exists.elim (show ∃ stop, sq[i]? = some stop from ⟨_, List.getElem?_eq_getElem (by omega)⟩) (fun stop hstop => ?_)
    have hsr := hsqr stop (List.mem_of_getElem? hstop)
    have hcell : scs[i]? = some (i64 stop) := by
      have q1 : (scs.take (st.length + 1))[i]? = some (i64 stop) := by rw [hscs, List.getElem?_map, hstop]; rfl
      rw [List.getElem?_take] at q1
      split at q1
      · exact q1
      · cases q1
    obtain ⟨DL, hDL'⟩ : ∃ DL : Own, DL = DS.map (fun d => (d, Obj.deferred (some []))) ++ LL := ⟨_, rfl⟩
    have hDLn : ∀ p ∈ DL, wb.heap.size ≤ p.1 := fun p hp => by
      rw [hDL'] at hp
      rcases List.mem_append.1 hp with hp | hp
      · obtain ⟨d, hd, rfl⟩ := List.mem_map.1 hp
        exact hDs d hd
      · exact hLLn p hp
    have hLD : ∀ p ∈ LL, p ∈ DL := fun p hp => by rw [hDL']; exact List.mem_append_right _ hp
    rw [← hDL']
    simp (disch := omega) only [push_cast, Nat.reduceEqDiff, e2, e4, e5, e7, e41, e42, e43, Nat.mul_one]
    rw [V_block]
    simp (disch := omega) only [push_cast, Nat.reduceEqDiff, e2, e4, e5, e7, e41, e42, e43, Nat.mul_one]
    refine ldOne Shp.eq (hLD _ m41) hcell ?_
    simp (disch := omega) only [push_cast, Nat.reduceEqDiff, e2, e4, e5, e7, e41, e42, e43, Nat.mul_one]
    refine newI (fun b9 hb9 hn9 => ?_)
    simp (disch := omega) only [push_cast, Nat.reduceEqDiff, e2, e4, e5, e7, e41, e42, e43, Nat.mul_one]
    refine storeX 0 rfl Siz.eq rfl rfl (by simp [Value.oneCell']) (by simp) ?_
    simp (disch := omega) only [push_cast, Nat.reduceEqDiff, e2, e4, e5, e7, e41, e42, e43, Nat.mul_one]
    refine newI (fun b10 hb10 hn10 => ?_)
    simp (disch := omega) only [push_cast, Nat.reduceEqDiff, e2, e4, e5, e7, e41, e42, e43, Nat.mul_one]
    refine storeX 0 rfl Siz.eq rfl rfl (by simp [Value.oneCell']) (by simp) ?_
    simp (disch := omega) only [push_cast, Nat.reduceEqDiff, e2, e4, e5, e7, e41, e42, e43, Nat.mul_one]
    obtain ⟨MM, hMM⟩ : ∃ MM : Own, MM = oV b9 (i64 stop) 3 :: DL := ⟨_, rfl⟩
    have hMMn : ∀ p ∈ MM, wb.heap.size ≤ p.1 := fun p hp => by
      rw [hMM] at hp
      rcases List.mem_cons.1 hp with rfl | hp
      · exact hb9
      · exact hDLn p hp
    have hLM : ∀ p ∈ LL, p ∈ MM := fun p hp => by rw [hMM]; exact .tail _ (hLD p hp)
    refine cutV (KwR wb MM ns.length stop (DS.map fun d => { target := .collected d, args := #[] }) DL b2 b4 b5 b9 b10 b41 cap bk sq.length i) ?_ ?_
    · rw [V_block]
      simp (disch := omega) only [push_cast, Nat.reduceEqDiff, e2, e4, e5, e7, e41, e42, e43, Nat.mul_one]
      refine forgetS (fun e => e 2 = .pointer (some ⟨b2, 0, none⟩) ∧ e 4 = .pointer (some ⟨b4, 0, none⟩) ∧ e 5 = .pointer (some ⟨b5, 0, none⟩) ∧ e 7 = .func (.func 40) #[] #[.pointer (some ⟨bk, 0, none⟩)] ∧ e 9 = .pointer (some ⟨b9, 0, none⟩) ∧ e 10 = .pointer (some ⟨b10, 0, none⟩) ∧ e 41 = .slice (some ⟨b41, 0, none⟩) sq.length cap ∧ e 42 = i64 sq.length ∧ e 43 = i64 i ∧ e 47 = .func (.func 40) #[] #[.pointer (some ⟨bk, 0, none⟩)]) ⟨e2, e4, e5, e7, by simp [upd], by simp [upd], e41, e42, e43, by simp [upd]⟩ ?_
      clear e2 e4 e5 e7 e41 e42 e43 e
      rintro e ⟨f2, f4, f5, f7, f9, f10, f41, f42, f43, f47⟩
      refine rangeY rfl f47 en_40 (fun fn tm d lr rec hrec htm hdl hd hlr hdn hlrn w' hw' => ?_)
      have hC : ∀ x : Obj, ∀ k : Int, ∀ p ∈ [(lr, x), (d, Obj.deferred (some [])), oV b10 (i64 k) 3], wb.heap.size ≤ p.1 := fun x k p hp => by
        simp only [List.mem_cons, List.mem_nil_iff, or_false] at hp
        rcases hp with rfl | rfl | rfl <;> assumption
      have hdMM : d ∉ MM.map (·.1) := fun h => hdn (by rw [hMM] at h; exact .tail _ h)
      rw [← hMM] at hw'
      refine (owalk1_walk wb MM ns
        (fun k C => k ≤ ns.length ∧ (0 < k → (k : Int) ≤ stop) ∧ C = [(lr, Obj.loop rec), (d, Obj.deferred (some [])), oV b10 (i64 (k : Nat)) 3])
        (fun k C => k < ns.length ∧ (0 < k → (k : Int) ≤ stop) ∧ stop < k + 1 ∧ ∃ rec' : Loop, rec'.state = .done ∧ rec'.pending = some (.exit 2) ∧ C = [(lr, Obj.loop rec'), (d, Obj.deferred (some [])), oV b10 (i64 ((k + 1 : Nat) : Int)) 3])
        (.func (.yield lr) #[] #[]) rfl rfl ⟨(by intro g f c h; cases h), ?_, ?_, ?_⟩ w' [(lr, Obj.loop rec), (d, Obj.deferred (some [])), oV b10 (i64 0) 3] MM bk (walkL l nt) ka kc
        hw' ⟨Nat.zero_le _, fun h => absurd h (by omega), rfl⟩ hMMn (fun p hp => hp) (hLM _ (mM _ hbk)) (hrx.mono fun w hw p hp => hw p (hLM _ (mM p hp))) hkc hkc2 hokn hnsw).mono ?_
      · rintro k C ⟨_, _, rfl⟩ p hp
        exact hC _ _ p hp
      · rintro k C ⟨_, _, _, rec', _, _, rfl⟩ p hp
        exact hC _ _ p hp
      · rintro k n hkn C K Mx bw wcap cs fa fc ⟨hkle, hks, rfl⟩ hpc hcm hcl hct hF hpl hNM hM0 w2 hw2
        have hklt : k < ns.length := (List.getElem?_eq_some_iff.1 hkn).1
        have hn0 : 0 < ns.length := by omega
        have hm : mayP l nt = true := nodes_may (by rw [← hns]; exact hn0)
        obtain ⟨rb, ncs, xs, A, rfl, hrbm, hncs, hno, hAm⟩ := hnd.hp hn0
        obtain ⟨ci, hci, htk⟩ := hno.get k hkn
        obtain ⟨pb, ga, aa, gc, ac, rfl, hpm, hpb, hp65, hrd, hgc, hgc2, hgn, _⟩ := hci
        rw [← hncs, take_sub _ _ _ _ (by omega)] at htk
        have hc0 : ncs[k * 10]? = some (.slice (some ⟨pb, 0, none⟩) n.path.length n.path.length) := by
          have h9 := congrArg (·[0]?) htk
          simpa [List.getElem?_take, List.getElem?_drop] using h9
        have hc7 : (ncs.drop (k * 10 + 1)).take 7 = n.f.cells ga gc := by
          have h9 := congrArg (fun l => (l.drop 1).take 7) htk
          simpa [List.drop_take, List.take_take, List.drop_drop, Nat.add_comm, Fld.cells] using h9
        obtain ⟨TT, hTT⟩ : ∃ TT : Own, TT = ((bw, Obj.cells cs.toArray 3 (0, 0)) :: K) ++ Mx := ⟨_, rfl⟩
        have hTTn : ∀ p ∈ TT, wb.heap.size ≤ p.1 := fun p hp => by rw [hTT] at hp; exact hNM p hp
        have mT : ∀ p ∈ LL, p ∈ TT := fun p hp => by rw [hTT]; exact List.mem_append_right _ (hM0 p (hLM p hp))
        have hw3 : Sy wb ((lr, Obj.loop rec) :: (d, Obj.deferred (some [])) :: oV b10 (i64 (k : Nat)) 3 :: TT) w2 := by rw [hTT]; exact hw2
        have hbwT : (bw, Obj.cells cs.toArray 3 (0, 0)) ∈ TT := by rw [hTT]; exact .head _
        have hKT : ∀ p ∈ K, p ∈ TT := fun p hp => by rw [hTT]; exact .tail _ (List.mem_append_left _ hp)
        subst hrec
        refine roundX (i := 0) rfl htm rfl (by simp) (by kernel_rfl) (by kernel_rfl) ?_ w2 hw3
        simp (disch := omega) only [push_cast, Nat.reduceEqDiff, f2, f5, f9, f10, Nat.mul_one, Fld.cells]
        refine newI (fun b12 hb12 hn12 => ?_)
        simp (disch := omega) only [push_cast, Nat.reduceEqDiff, f2, f5, f9, f10, Nat.mul_one]
        repeat' (first | ((first | refine guardX_t rfl (fun h => ?_) (fun h => ?_) | refine guardX_f rfl (fun h => ?_) (fun h => ?_) | refine condX_d (fun h => ?_) (fun h => ?_) | (refine guardX_bt rfl (fun h => ?_) (fun h => ?_) <;> (try subst h)) | (refine guardX_bf rfl (fun h => ?_) (fun h => ?_) <;> (try subst h)) | (refine condX_b (fun h => ?_) (fun h => ?_) <;> (try subst h)) | refine ldOne Shp.eq (by (first | exact mem0 | exact mem1 | exact mem2 | exact mem3 | exact mem4 | exact mem5)) rfl ?_ | refine loadX_agg Shp.eq (by (first | exact mem0 | exact mem1 | exact mem2 | exact mem3 | exact mem4 | exact mem5)) rfl rfl ?_ | refine newI (fun b hb hn => ?_) | refine storeX 0 rfl Siz.eq rfl rfl (by simp [Value.oneCell']) (by simp) ?_ | refine storeX 1 rfl Siz.eq rfl rfl (by simp [Value.oneCell']) (by simp) ?_ | refine storeX 2 rfl Siz.eq rfl rfl (by simp [Value.oneCell']) (by simp) ?_ | refine storeX 3 rfl Siz.eq rfl rfl (by simp [Value.oneCell']) (by simp) ?_ | refine storeX 4 rfl Siz.eq rfl rfl (by simp [Value.oneCell']) (by simp) ?_ | refine storeX 5 rfl Siz.eq rfl rfl (by simp [Value.oneCell']) (by simp) ?_ | refine storeX 6 rfl Siz.eq rfl rfl (by simp [Value.oneCell']) (by simp) ?_) <;> simp (disch := omega) only [push_cast, Nat.reduceEqDiff, f2, f5, f9, f10, Nat.mul_one]))
        refine ⟨1, rfl, ?_⟩
        simp (disch := omega) only [push_cast, Nat.reduceEqDiff, f2, f5, f9, f10, Nat.mul_one]
        refine own_gen (fun bz hbz => ?_)
        rw [V_block]
        simp (disch := omega) only [push_cast, Nat.reduceEqDiff, f2, f5, f9, f10, Nat.mul_one]
        have h4n : ∀ (x : Obj) (j : Int) (T : Own), (∀ p ∈ T, wb.heap.size ≤ p.1) → ∀ p ∈ (b12, x) :: (lr, Obj.loop bz) :: (d, Obj.deferred (some [])) :: oV b10 (i64 j) 3 :: T, wb.heap.size ≤ p.1 := fun x j T hT p hp => by
          simp only [List.mem_cons] at hp
          rcases hp with rfl | rfl | rfl | rfl | hp
          · exact hb12
          · exact hlr
          · exact hd
          · exact hb10
          · exact hT p hp
        have m4T : ∀ p ∈ TT, p ∈ oFd b12 n.f fa fc :: (lr, Obj.loop bz) :: (d, Obj.deferred (some [])) :: oV b10 (i64 (k : Nat)) 3 :: TT := fun p hp => .tail _ (.tail _ (.tail _ (.tail _ hp)))
        refine drawQT (by kernel_rfl) (by kernel_rfl) mixed (by kernel_rfl) ?_
        simp (disch := omega) only [push_cast, Nat.reduceEqDiff, f2, f5, f9, f10, Nat.mul_one]
        refine ldOne Shp.eq mem3 rfl ?_
        simp (disch := omega) only [push_cast, Nat.reduceEqDiff, f2, f5, f9, f10, Nat.mul_one]
        refine ldOne Shp.eq (m4T _ (mT _ m5)) rfl ?_
        simp (disch := omega) only [push_cast, Nat.reduceEqDiff, f2, f5, f9, f10, Nat.mul_one]
        refine guardX_f rfl (fun _ => ?_) (fun h => absurd h (by omega))
        simp (disch := omega) only [push_cast, Nat.reduceEqDiff, f2, f5, f9, f10, Nat.mul_one]
        refine ldOne Shp.eq (m4T _ (mT _ m5)) rfl ?_
        simp (disch := omega) only [push_cast, Nat.reduceEqDiff, f2, f5, f9, f10, Nat.mul_one]
        refine ldOne Shp.eq mem3 rfl ?_
        simp (disch := omega) only [push_cast, Nat.reduceEqDiff, f2, f5, f9, f10, Nat.mul_one]
        refine ldOne Shp.eq (m4T _ (mT _ hrbm)) hc0 ?_
        simp (disch := omega) only [push_cast, Nat.reduceEqDiff, f2, f5, f9, f10, Nat.mul_one]
        refine qcallV en_12 (qcallX_is (.bool true) (fun w' hw' => by
          have h1 : IntsAt w' (some ⟨bw, 0, none⟩) (toInts n.path) := intsAt_row (M := [(bw, Obj.cells cs.toArray 3 (0, 0))]) hw' (fun q hq => by rw [List.mem_singleton.1 hq]; exact m4T _ hbwT) ⟨by simp [ints], .inr ⟨bw, wcap, cs, rfl, .head _, hpc, hcm, by omega, by simpa using hct⟩⟩
          have h2 : IntsAt w' (some ⟨pb, 0, none⟩) (toInts n.path) := intsAt_row (M := [(pb, Obj.cells (ints n.path).toArray 3 (0, 0))]) hw' (fun q hq => by rw [List.mem_singleton.1 hq]; exact m4T _ (mT _ (hAm _ hpm))) ⟨by simp [ints], .inr ⟨pb, n.path.length, ints n.path, rfl, .head _, Nat.le_refl _, by simp only [maxLen]; omega, by simp [ints], List.take_of_length_le (by simp [ints])⟩⟩
          have h3 := eqInts_walk w' (toInts n.path) (toInts n.path) (some ⟨bw, 0, none⟩) (some ⟨pb, 0, none⟩) wcap n.path.length h1 h2 (by rw [toInts_length]; omega)
          rw [toInts_length, decide_eq_true rfl] at h3
          exact h3) ?_)
        simp (disch := omega) only [push_cast, Nat.reduceEqDiff, f2, f5, f9, f10, Nat.mul_one, Bool.not_true]
        refine loadX_agg Shp.eq mem0 rfl rfl ?_
        simp (disch := omega) only [push_cast, Nat.reduceEqDiff, f2, f5, f9, f10, Nat.mul_one]
        refine ldOne Shp.eq (m4T _ (mT _ m5)) rfl ?_
        simp (disch := omega) only [push_cast, Nat.reduceEqDiff, f2, f5, f9, f10, Nat.mul_one]
        refine ldOne Shp.eq mem3 rfl ?_
        simp (disch := omega) only [push_cast, Nat.reduceEqDiff, f2, f5, f9, f10, Nat.mul_one]
        refine loadX_agg Shp.eq (m4T _ (mT _ hrbm)) hc7 rfl ?_
        simp (disch := omega) only [push_cast, Nat.reduceEqDiff, f2, f5, f9, f10, Nat.mul_one, Fld.cells]
        refine qcallV en_13 (qcallX_is (.bool true) (fun w' hw' => eqField_walk w' w'.heap.size w'.heap.size n.f fa ga fc gc (Nat.le_refl _) (Nat.le_refl _) (hF.rd hw' (fun p hp => m4T _ (hKT p hp))) ((hrd.sy hlo hw' (fun p hp => Nat.le_trans hlo (h4n _ _ _ hTTn p hp))).weaken (Nat.le_trans hlo hw'.size)) (by have := hF.le; omega)) ?_)
        simp (disch := omega) only [push_cast, Nat.reduceEqDiff, f2, f5, f9, f10, Nat.mul_one, Bool.not_true]
        rw [V_cond]
        simp (disch := omega) only [push_cast, Nat.reduceEqDiff, f2, f5, f9, f10, Nat.mul_one]
        obtain ⟨RR, hRR⟩ : ∃ RR : Own, RR = oFd b12 n.f fa fc :: (lr, Obj.loop bz) :: (d, Obj.deferred (some [])) :: oV b10 (i64 (k : Nat)) 3 :: (K ++ Mx) := ⟨_, rfl⟩
        rw [V_block]
        simp (disch := omega) only [push_cast, Nat.reduceEqDiff, f2, f5, f9, f10, Nat.mul_one]
        refine loopW (G := Nat) (Kw4 wb RR n.path.length wcap bw b2 b5 b9 b10 b12) (fun j => n.path.length - j) 0 ((bw, Obj.cells cs.toArray 3 (0, 0)) :: RR) (fun w hw => by
          rw [hTT] at hw
          rw [hRR]
          exact hw.perm (List.perm_middle (l₁ := [_, _, _, _]))) (by kernel_rfl) ⟨rfl, rfl, ⟨cs, rfl, hcl⟩, Nat.zero_le _, f2, f5, f9, f10, rfl, rfl, rfl, rfl⟩ ?_
        rintro j wb e ds L4 ⟨rfl, rfl, ⟨cs4, rfl, hcl4⟩, hj, k2, k5, k9, k10, k11, k12, k75, k76⟩
        simp (disch := omega) only [push_cast, Nat.reduceEqDiff, k2, k5, k9, k10, k11, k12, k75, k76, Nat.mul_one]
        rw [V_cond]
        simp (disch := omega) only [push_cast, Nat.reduceEqDiff, k2, k5, k9, k10, k11, k12, k75, k76, Nat.mul_one]
        refine condX_d (fun hjlt => ?_) (fun hjge => ?_)
        · simp (disch := omega) only [push_cast, Nat.reduceEqDiff, k2, k5, k9, k10, k11, k12, k75, k76, Nat.mul_one]
          rw [V_block]
          simp (disch := omega) only [push_cast, Nat.reduceEqDiff, k2, k5, k9, k10, k11, k12, k75, k76, Nat.mul_one]
          refine storeX 0 rfl Siz.eq rfl rfl (by simp [Value.oneCell']) (by omega) ?_
          simp (disch := omega) only [push_cast, Nat.reduceEqDiff, k2, k5, k9, k10, k11, k12, k75, k76, Nat.mul_one, List.set_cons_zero]
          refine ⟨j + 1, _, fun w hw => hw, ⟨rfl, rfl, ⟨splice cs4 j [i64 (-9)], rfl, by rw [splice_length (by simp only [List.length_cons, List.length_nil]; omega)]; exact hcl4⟩, by omega, k2, k5, k9, k10, k11, k12, k75, by simp only [upd]; rfl⟩, by omega⟩
        simp (disch := omega) only [push_cast, Nat.reduceEqDiff, k2, k5, k9, k10, k11, k12, k75, k76, Nat.mul_one]
        rw [hRR]
        refine ldOne Shp.eq mem1 rfl ?_
        simp (disch := omega) only [push_cast, Nat.reduceEqDiff, k2, k5, k9, k10, k12, Nat.mul_one]
        have hMxn : ∀ p ∈ Mx, wb.heap.size ≤ p.1 := fun p hp => hNM p (List.mem_append_right _ hp)
        have hbwn : wb.heap.size ≤ bw := hNM _ (.head _)
        have h5n : ∀ (x : Obj) (q : Int) (T : Own), (∀ p ∈ T, wb.heap.size ≤ p.1) → ∀ p ∈ (bw, x) :: oFd b12 n.f fa fc :: (lr, Obj.loop bz) :: (d, Obj.deferred (some [])) :: oV b10 (i64 q) 3 :: T, wb.heap.size ≤ p.1 := fun x q T hT p hp => by
          rcases List.mem_cons.1 hp with rfl | hp
          · exact hbwn
          · exact h4n _ _ _ hT p hp
        have hnewS : ∀ p ∈ K ++ ((bw, Obj.cells cs4.toArray 3 (0, 0)) :: oFd b12 n.f fa fc :: (lr, Obj.loop bz) :: (d, Obj.deferred (some [])) :: oV b10 (i64 (k : Nat)) 3 :: Mx), wb.heap.size ≤ p.1 := fun p hp => by
          rcases List.mem_append.1 hp with hp | hp
          · exact hNM p (List.mem_append_left _ (.tail _ hp))
          · exact h5n _ _ _ hMxn p hp
        refine callV en_11 (callX_base (fun w' hw' => spoil_walk wb w' n.f.sub K ((bw, Obj.cells cs4.toArray 3 (0, 0)) :: oFd b12 n.f fa fc :: (lr, Obj.loop bz) :: (d, Obj.deferred (some [])) :: oV b10 (i64 (k : Nat)) 3 :: Mx) fa fc [109, 97, 114, 107] (by simp) hF.toS (hw'.perm (List.perm_append_comm_assoc [_, _, _, _, _] K Mx)) hnewS) ?_)
        rintro e' w' ⟨rfl, l2, K3, q1, q2, q3, q6, q4, q5⟩
        refine ⟨_, (bw, Obj.cells cs4.toArray 3 (0, 0)) :: oFd b12 n.f fa fc :: (lr, Obj.loop bz) :: (d, Obj.deferred (some [])) :: oV b10 (i64 (k : Nat)) 3 :: (K3 ++ Mx), rfl, q4.perm (List.perm_append_comm_assoc [_, _, _, _, _] K3 Mx).symm, ?_⟩
        simp (disch := omega) only [push_cast, Nat.reduceEqDiff, k2, k5, k9, k10, k12, Nat.mul_one]
        have mM5 : ∀ (x : Obj) (q : Int), ∀ p ∈ LL, p ∈ (bw, x) :: oFd b12 n.f fa fc :: (lr, Obj.loop bz) :: (d, Obj.deferred (some [])) :: oV b10 (i64 q) 3 :: (K3 ++ Mx) := fun x q p hp => .tail _ (.tail _ (.tail _ (.tail _ (.tail _ (List.mem_append_right _ (hM0 p (hLM p hp)))))))
        have hKMn : ∀ p ∈ K3 ++ Mx, wb.heap.size ≤ p.1 := fun p hp => by
          rcases List.mem_append.1 hp with hp | hp
          · exact q5 p hp
          · exact hMxn p hp
        refine ldOne Shp.eq mem4 rfl ?_
        simp (disch := omega) only [push_cast, Nat.reduceEqDiff, k2, k5, k9, k10, k12, Nat.mul_one]
        refine storeX 4 rfl Siz.eq rfl rfl (by simp [Value.oneCell']) (by simp) ?_
        simp (disch := omega) only [push_cast, Nat.reduceEqDiff, k2, k5, k9, k10, k12, Nat.mul_one]
        refine ldOne Shp.eq mem4 rfl ?_
        simp (disch := omega) only [push_cast, Nat.reduceEqDiff, k2, k5, k9, k10, k12, Nat.mul_one]
        refine shareVA (c := ?yc) (code := ?ycode) (Q := ?yQ) (wb := ?ywb) (ds := ?yds) (L := ?yL) (fun e => e 9 = .pointer (some ⟨b9, 0, none⟩) ∧ e 10 = .pointer (some ⟨b10, 0, none⟩) ∧ e 96 = .bool false) (fun tail => ?br2) ?lt2
        case br2 =>
          refine guardX_t rfl (fun h2 => ?_) (fun h2 => ?_)
          · simp (disch := omega) only [push_cast, Nat.reduceEqDiff, k2, k5, k9, k10, k12, Nat.mul_one]
            refine loadX_agg (b := b2) (cs := [.slice a l.length c, .slice na nt.length nc]) (ty := 25) (fr := (0, 0)) Shp.eq (mM5 _ _ _ m2) rfl rfl ?_
            simp (disch := omega) only [push_cast, Nat.reduceEqDiff, k2, k5, k9, k10, k12, Nat.mul_one]
            refine ldOne (b := b5) (cs := [.slice (some ⟨rb, 0, none⟩) ns.length vc]) (ty := 28) (fr := (0, 0)) Shp.eq (mM5 _ _ _ m5) rfl ?_
            simp (disch := omega) only [push_cast, Nat.reduceEqDiff, k2, k5, k9, k10, k12, Nat.mul_one]
            refine callV en_14 (callX_is (fun w' hw' => again_walk w' (hs.mono hw' (h5n _ _ _ hKMn)) w'.heap.size (Nat.le_refl _) a l c na nt nc ((k1 w' _ (h5n _ _ _ hKMn) hw').weaken (Nat.le_trans hlo hw'.size)) hm ns hns hn0 (some ⟨rb, 0, none⟩) vc (hno.want hlo hw' (h5n _ _ _ hKMn) (fun p hp => mM5 _ _ _ (hAm p hp)) (mM5 _ _ _ hrbm) hncs)) ?_)
            simp (disch := omega) only [push_cast, Nat.reduceEqDiff, k2, k5, k9, k10, k12, Nat.mul_one, Bool.not_true]
            refine tail _ ?_
            exact ⟨k9, k10, rfl⟩
          · simp (disch := omega) only [push_cast, Nat.reduceEqDiff, k2, k5, k9, k10, k12, Nat.mul_one]
            refine tail _ ?_
            exact ⟨k9, k10, rfl⟩
        case lt2 =>
          clear k2 k5 k9 k10 k11 k12 k75 k76
          rintro e ⟨k9, k10, k96⟩
          rw [V_cond]
          simp (disch := omega) only [push_cast, Nat.reduceEqDiff, k9, k10, k96]
          refine ldOne Shp.eq mem4 rfl ?_
          simp (disch := omega) only [push_cast, Nat.reduceEqDiff, k9, k10]
          refine ldOne (b := b9) (cs := [i64 stop]) (ty := 3) (fr := (0, 0)) Shp.eq (.tail _ (.tail _ (.tail _ (.tail _ (.tail _ (List.mem_append_right _ (hM0 _ (by rw [hMM]; exact .head _)))))))) rfl ?_
          simp (disch := omega) only [push_cast, Nat.reduceEqDiff, k9, k10]
          rw [V_cond]
          simp (disch := omega) only [push_cast, Nat.reduceEqDiff, k9, k10]
          refine condX_d (fun hst2 => ?_) (fun hst2 => ?_)
          · simp (disch := omega) only [push_cast, Nat.reduceEqDiff, k9, k10]
            subst hbz
            refine ⟨2, _, rfl, fun w4 hw4 => ?_⟩
            have h9 := (hw4.left (A := [_, _]) (fun p hp => by
              rcases List.mem_cons.1 hp with rfl | hp
              · exact hbwn
              · rw [List.mem_singleton.1 hp]; exact hb12)).mid [_, _, _] K3 q5
            refine .inr ⟨rfl, _, ?_, h9⟩
            refine ⟨hklt, hks, by omega, _, ?_, ?_, rfl⟩
            · rfl
            · rfl
          · simp (disch := omega) only [push_cast, Nat.reduceEqDiff, k9, k10]
            subst hbz
            refine ⟨2, _, rfl, fun w4 hw4 => .inl ⟨rfl, _, ⟨by omega, fun _ => by omega, rfl⟩, ?_⟩⟩
            exact (hw4.left (A := [_, _]) (fun p hp => by
              rcases List.mem_cons.1 hp with rfl | hp
              · exact hbwn
              · rw [List.mem_singleton.1 hp]; exact hb12)).mid [_, _, _] K3 q5
      · rintro e5 w5 ⟨rfl, ⟨C', ⟨_, hks, rfl⟩, hw5⟩ | ⟨j, C', ⟨hj, hjs, hjt, rec', hr1, hr2, rfl⟩, hw5⟩⟩
        · subst hrec
          refine ⟨wb, _, 0, _, rfl, (by simp), hw5, ?_⟩
          simp (disch := omega) only [push_cast, Nat.reduceEqDiff]
          exact ⟨rfl, ⟨d, lr, _, ns.length, hd, hlr, hdMM, rfl, rfl, Nat.le_refl _, .inl rfl⟩, f2, f4, f5, f7, f9, f10, f41, f42, f43⟩
        · refine ⟨wb, _, 0, rec', rfl, (by rw [hr1]; simp), hw5, ?_⟩
          rw [hr2]
          simp (disch := omega) only [push_cast, Nat.reduceEqDiff]
          exact ⟨rfl, ⟨d, lr, _, j + 1, hd, hlr, hdMM, rfl, rfl, by omega, .inr (by omega)⟩, f2, f4, f5, f7, f9, f10, f41, f42, f43⟩
    have hm9 : oV b9 (i64 stop) 3 ∈ MM := by rw [hMM]; exact .head _
    rintro wb e ds L ⟨rfl, ⟨d, lr, x, cn, hd, hlr, hdMM, rfl, rfl, hcn, hcc⟩, g2, g4, g5, g7, g9, g10, g41, g42, g43⟩
    simp (disch := omega) only [push_cast, Nat.reduceEqDiff, g2, g4, g5, g7, g9, g10, g41, g42, g43]
    refine ldOne Shp.eq mem2 rfl ?_
    simp (disch := omega) only [push_cast, Nat.reduceEqDiff, g2, g4, g5, g7, g9, g10, g41, g42, g43]
    refine ldOne Shp.eq (.tail _ (.tail _ (.tail _ (hLM _ m5)))) rfl ?_
    simp (disch := omega) only [push_cast, Nat.reduceEqDiff, g2, g4, g5, g7, g9, g10, g41, g42, g43]
    refine shareVA (c := ?zc) (code := ?zcode) (Q := ?zQ) (wb := ?zwb) (ds := ?zds) (L := ?zL) (fun e => e 2 = .pointer (some ⟨b2, 0, none⟩) ∧ e 4 = .pointer (some ⟨b4, 0, none⟩) ∧ e 5 = .pointer (some ⟨b5, 0, none⟩) ∧ e 7 = .func (.func 40) #[] #[.pointer (some ⟨bk, 0, none⟩)] ∧ e 41 = .slice (some ⟨b41, 0, none⟩) sq.length cap ∧ e 42 = i64 sq.length ∧ e 43 = i64 i ∧ e 110 = .bool false) (fun tail => ?br) ?lt
    case br =>
      refine guardX_t rfl (fun hne => ?_) (fun hne => ?_)
      · have hc2 : (cn : Int) = max (stop + 1) 1 ∧ stop < 9223372036854775807 := hcc.resolve_left (by omega)
        have hc3 := hc2.2
        simp (disch := omega) only [push_cast, Nat.reduceEqDiff, g2, g4, g5, g7, g9, g10, g41, g42, g43]
        refine ldOne Shp.eq mem2 rfl ?_
        simp (disch := omega) only [push_cast, Nat.reduceEqDiff, g2, g4, g5, g7, g9, g10, g41, g42, g43]
        refine ldOne Shp.eq (.tail _ (.tail _ (.tail _ hm9))) rfl ?_
        simp (disch := omega) only [push_cast, Nat.reduceEqDiff, g2, g4, g5, g7, g9, g10, g41, g42, g43]
        refine max_i64A _ _ _ _ ?_
        simp (disch := omega) only [push_cast, Nat.reduceEqDiff, g2, g4, g5, g7, g9, g10, g41, g42, g43]
        refine tail _ ?_
        exact ⟨g2, g4, g5, g7, g41, g42, g43, by simp [upd, hc2.1]⟩
      · simp (disch := omega) only [push_cast, Nat.reduceEqDiff, g2, g4, g5, g7, g9, g10, g41, g42, g43]
        refine tail _ ?_
        exact ⟨g2, g4, g5, g7, g41, g42, g43, by simp [upd]⟩
    case lt =>
      clear g2 g4 g5 g7 g9 g10 g41 g42 g43 e
      rintro e ⟨g2, g4, g5, g7, g41, g42, g43, g110⟩
      rw [V_cond]
      simp (disch := omega) only [push_cast, Nat.reduceEqDiff, g2, g4, g5, g7, g41, g42, g43, g110]
      have hdDL : d ∉ DL.map (·.1) := fun h => hdMM (by rw [hMM]; exact .tail _ h)
      refine ⟨i + 1, (d, Obj.deferred (some [])) :: DL, fun w hw => ?_, ⟨rfl, ⟨d :: DS, rfl, by rw [hDL']; rfl, List.nodup_cons.2 ⟨fun h => hdDL ?_, hDn⟩, fun d' hd' => ?_, fun d' hd' => ?_⟩, by omega, g2, g4, g5, g7, g41, g42, by simp only [upd]; rfl⟩, by omega⟩
      · rw [hMM] at hw
        exact (hw.left (A := [_]) (fun p hp => by rw [List.mem_singleton.1 hp]; exact hlr)).mid [_] [_, _] (fun p hp => by
          rcases List.mem_cons.1 hp with rfl | hp
          · exact hb10
          · rw [List.mem_singleton.1 hp]; exact hb9)
      · rw [hDL', List.map_append, List.map_map]
        exact List.mem_append_left _ (List.mem_map.2 ⟨d, h, rfl⟩)
      · rcases List.mem_cons.1 hd' with rfl | hd'
        · exact hd
        · exact hDs d' hd'
      · rcases List.mem_cons.1 hd' with rfl | hd'
        · exact fun h => hdDL (by rw [hDL', List.map_append]; exact List.mem_append_right _ h)
        · exact hDL d' hd'
  · simp (disch := omega) only [push_cast, Nat.reduceEqDiff, e2, e4, e5, e7, e41, e42, e43, Nat.mul_one]
    have hb4LL : b4 ∈ LL.map (·.1) := List.mem_map.2 ⟨_, m4, rfl⟩
    have hb4D : b4 ∉ DS := fun h => hDL b4 h hb4LL
    obtain ⟨X, Y, hXY⟩ := List.append_of_mem (List.mem_append_right (DS.map fun d => (d, Obj.deferred (some []))) m4)
    have hXYn : ∀ p ∈ X ++ oV b4 (.bool false) 4 :: Y, wb.heap.size ≤ p.1 := fun p hp => by
      rw [← hXY] at hp
      rcases List.mem_append.1 hp with hp | hp
      · obtain ⟨d, hd, rfl⟩ := List.mem_map.1 hp
        exact hDs d hd
      · exact hLLn p hp
    refine storeX_weak (L' := oV b4 (.bool false) 4 :: (X ++ Y)) (fun w hw => by rw [hXY] at hw; exact hw.perm List.perm_middle) (storeX 0 rfl Siz.eq rfl rfl (by simp [Value.oneCell']) (by simp) ?_)
    simp (disch := omega) only [push_cast, Nat.reduceEqDiff, e2, e4, e5, e7, e41, e42, e43, Nat.mul_one]
    refine leaveL_all DS _ hDn (fun d hd => ?_) (fun L' h1 h2 => ?_)
    · have h3 : (d, Obj.deferred (some [])) ∈ X ++ oV b4 (.bool false) 4 :: Y := by
        rw [← hXY]; exact List.mem_append_left _ (List.mem_map.2 ⟨d, hd, rfl⟩)
      rcases List.mem_append.1 h3 with h3 | h3
      · exact .tail _ (List.mem_append_left _ h3)
      rcases List.mem_cons.1 h3 with h3 | h3
      · cases h3
      · exact .tail _ (List.mem_append_right _ h3)
    · simp (disch := omega) only [push_cast, Nat.reduceEqDiff, e2, e4, e5, e7, e41, e42, e43, Nat.mul_one]
      refine ldOne Shp.eq (h2 _ (.head _) hb4D) rfl ?_
      simp (disch := omega) only [push_cast, Nat.reduceEqDiff, e2, e4, e5, e7, e41, e42, e43, Nat.mul_one]
      refine finIs (fun p hp => ?_) rfl
      have hfin : ∀ q ∈ (b4, Obj.cells #[.bool true] 4 (0, 0)) :: (X ++ Y), wb.heap.size ≤ q.1 := fun q hq => by
        rcases List.mem_cons.1 hq with rfl | hq
        · exact hb4
        rcases List.mem_append.1 hq with hq | hq
        · exact hXYn q (List.mem_append_left _ hq)
        · exact hXYn q (List.mem_append_right _ (.tail _ hq))
      rcases h1 p hp with hq | ⟨_, p', hq, he⟩
      · exact hfin p hq
      · rw [← he]; exact hfin p' hq
end Go.Proofs.YtgbafmjgfbgeoaaDoor
