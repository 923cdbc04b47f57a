/- YtjkogfiidhjpcaaDoor: walks, part 137: Book: the lists of a value, one after the other. -/
import Derived.Test.YtjkogfiidhjpcaaDoorW136
namespace Go.Proofs.YtjkogfiidhjpcaaDoor
open Go Go.K
set_option maxRecDepth 100000
set_option linter.unusedVariables false
set_option linter.unusedSimpArgs false
set_option maxHeartbeats 4000000
theorem infoRowV : (Tryd.prog.info? 27).map (fun i => (i.zero, i.size, i.bytes)) = some (some (.slice none 0 0), 1, 24) := by kernel_rfl
mutual
theorem ZeV.count : ∀ (v : Vl) {its : List Rw} {a : Option Addr} {c : Nat}, ZeV v its a c → its.length * 16 ≤ wV v
  | .mk nu num tx ls, its, a, c, h => by
    rw [ZeV] at h
    obtain ⟨_, _, x, its', rfl, _, _, _, _, h5⟩ := h
    have := ZeK.count ls h5
    rw [wV, List.length_cons]
    omega
theorem ZeK.count : ∀ (ls : List Vl) {its : List Rw} {cs : List Value}, ZeK ls its cs → its.length * 16 ≤ wL ls
  | [], its, cs, h => by
    rw [ZeK] at h
    rw [h.1, wL]
    simp
  | v :: l, its, cs, h => by
    rw [ZeK] at h
    obtain ⟨its1, its2, a, c, cs', rfl, rfl, h1, h2⟩ := h
    have q1 := ZeV.count v h1
    have q2 := ZeK.count l h2
    rw [wL, List.length_append]
    omega
end
/-- A Book, in a block: its lists of values so far. -/
def BkO (bk : Nat) (va : Value) : Nat × Obj := (bk, Obj.cells #[va, .slice none 0 0, .slice none 0 0, .slice none 0 0] 50 (0, 0))
abbrev RowW (wb : World) (R : Own) (va : Value) (ws : List Value) : Prop := RowO wb 27 1 R [] va ws.length ws
def BvOK (n : Nat) : Prop := ∀ (wb w : World) (bk : Nat) (va : Value) (R M : Own) (ws : List Value) (x : Rw) (its : List Rw) (ls : List Vl), SizeOf.sizeOf ls ≤ n → x.OK → x.n = ls.length → ZeK ls its (x.cs.take (x.n * 4)) → RowW wb R va ws → (∀ p ∈ x.own, p ∈ M) → (∀ p ∈ ownR its, p ∈ M) → (∀ p ∈ M, wb.heap.size ≤ p.1) → wb.heap.size ≤ bk → ws.length + (its.length + 1) ≤ 1000000 → Sy wb (BkO bk va :: (R ++ M)) w →
  Calls Tryd.prog 41 #[.pointer (some ⟨bk, 0, none⟩), x.way] w (fun e w' => e = .returned (.tuple #[]) ∧ ∃ va' R', RowW wb R' va' (ws ++ (x :: its).map Rw.way) ∧ Sy wb (BkO bk va' :: (R' ++ M)) w')
structure BvI (w0 : World) (bk : Nat) (M : Own) (ws : List Value) (x : Rw) (its : List Rw) (ls : List Vl) (i : Nat) (wb : World) (e : Env) (ds : List Deferred) (L : Own) : Prop where
  hw : wb = w0
  hds : ds = []
  hi : i ≤ ls.length
  h0 : e 0 = .pointer (some ⟨bk, 0, none⟩)
  h1 : e 1 = x.way
  h4 : e 4 = i64 i
  o : ∃ (va : Value) (R : Own) (itsA itsB : List Rw), its = itsA ++ itsB ∧ ZeK (ls.drop i) itsB ((x.cs.take (x.n * 4)).drop (i * 4)) ∧ RowW w0 R va (ws ++ (x :: itsA).map Rw.way) ∧ L = BkO bk va :: (R ++ M)
theorem values_step (n : Nat) (hT : BvOK n) : BvOK (n + 1) := by
  intro wb w bk va R M ws x its ls hn hx hxn hk hro hxm him hM hbk hsm hw
  have hn63 := Rw.n_le hx
  simp only [maxLen] at hn63
  have hRn : ∀ p ∈ R, wb.heap.size ≤ p.1 := RowO.new hro (by simp)
  refine enterB (args := [.pointer (some ⟨bk, 0, none⟩), x.way]) Tryd.func41 rfl Tryd.ntmps41 (congrArg Array.toList Tryd.results41) (by kernel_rfl) (by simp) hw ?_
  simp (disch := omega) only [push_cast, Nat.reduceEqDiff, BkO]
  refine ldOne Shp.eq mem0 rfl ?_
  simp (disch := omega) only [push_cast, Nat.reduceEqDiff]
  refine bs_47_1 (newI fun b11 hb11 hn11 => ?_)
  simp (disch := omega) only [push_cast, Nat.reduceEqDiff]
  refine valX_weak (L' := R ++ ((b11, Obj.cells #[x.way] 27 (0, 0)) :: (BkO bk va :: M))) (fun w hw => hw.perm ?_) (appendI un_47 infoRowV rfl (m := 1) (news := [x.way]) (RowO.frame hro) rfl (CanRead.of_own (e := 27) (b := b11) (cs := [x.way]) (n := 1) (List.mem_append_right _ (.head _)) rfl rfl) (by simp [Value.oneCell', Rw.way]) (by simp only [maxLen]; omega) (by omega) (fun v' L' hr' _ => ?_))
  · exact (List.perm_middle.symm.cons _).trans List.perm_middle.symm
  obtain ⟨R1, rfl, hR1⟩ := RowO.unframe hr'
  obtain ⟨va1, vc1, rfl⟩ := hR1.is_slice
  simp (disch := omega) only [push_cast, Nat.reduceEqDiff]
  refine storeX_weak (L' := BkO bk va :: (R1 ++ M)) (fun w hw => ?_) (storeX 0 rfl Siz.eq rfl rfl (by simp [Value.oneCell']) (by simp [BkO]) ?_)
  · have h1 := hw.mid R1 [_] (C := BkO bk va :: M) (fun p hp => by rw [List.mem_singleton.1 hp]; exact hb11)
    exact h1.perm List.perm_middle
  simp (disch := omega) only [push_cast, Nat.reduceEqDiff]
  rw [V_block]
  simp (disch := omega) only [push_cast, Nat.reduceEqDiff]
  refine loopW (G := Nat) (BvI wb bk M ws x its ls) (fun i => ls.length - i) 0 (BkO bk (.slice va1 (ws.length + 1) vc1) :: (R1 ++ M)) (fun w hw => hw) (by kernel_rfl) ⟨rfl, rfl, by omega, rfl, rfl, rfl, _, R1, [], its, rfl, by simpa using hk, (by simpa [RowW] using hR1), rfl⟩ ?_
  rintro i wb e ds L ⟨rfl, rfl, hi, h0, h1, h4, va2, R2, itsA, itsB, hits, hkB, hro2, rfl⟩
  simp (disch := omega) only [push_cast, Nat.reduceEqDiff, h0, h1, h4, Rw.way]
  rw [V_cond]
  simp (disch := omega) only [push_cast, Nat.reduceEqDiff, h0, h1, h4, Rw.way]
  refine condX_d (fun hlt => ?_) (fun hge => ?_)
  rotate_left
  · obtain rfl : i = ls.length := by omega
    simp (disch := omega) only [push_cast, Nat.reduceEqDiff, h0, h1, h4]
    rw [List.drop_length, ZeK] at hkB
    obtain ⟨rfl, _⟩ := hkB
    rw [List.append_nil] at hits
    subst hits
    exact fun w' hw' => ⟨va2, R2, hro2, hw'⟩
  obtain ⟨v, hv⟩ : ∃ v, ls[i]? = some v := ⟨_, List.getElem?_eq_getElem (by omega)⟩
  have hdrop : ls.drop i = v :: ls.drop (i + 1) := by
    obtain ⟨q1, rfl⟩ := List.getElem?_eq_some_iff.1 hv
    exact List.drop_eq_getElem_cons q1
  rw [hdrop, ZeK] at hkB
  obtain ⟨its1, its2, a, c, cs', rfl, hcs, hZ, hk2⟩ := hkB
  obtain ⟨u1, u2, x1, its1', rfl, y1, y2, rfl, rfl, y5⟩ := (ZeV_iff _ _ _ _).1 hZ
  obtain ⟨b, hb⟩ : ∃ b, x.b = some b := by
    rcases hx with ⟨_, q, _⟩ | ⟨q, _⟩
    · omega
    · exact Option.ne_none_iff_exists'.1 q
  have hat : x.at_ = some ⟨b, 0, none⟩ := by unfold Rw.at_; rw [hb]; rfl
  have hbm : (b, Obj.cells x.cs.toArray 29 (0, 0)) ∈ M := hxm _ (by unfold Rw.own; rw [hb]; exact .head _)
  have hget : x.cs[i * 4 + 3]? = some (.slice x1.at_ v.ls.length x1.c) := by
    have q1 : ((x.cs.take (x.n * 4)).drop (i * 4))[3]? = some (.slice x1.at_ v.ls.length x1.c) := by rw [hcs]; rfl
    rw [List.getElem?_drop, List.getElem?_take] at q1
    split at q1
    · exact q1
    · cases q1
  have h1' : e 1 = .slice (some ⟨b, 0, none⟩) x.n x.c := by rw [h1, Rw.way, hat]
  simp (disch := omega) only [push_cast, Nat.reduceEqDiff, h0, h1', h4]
  rw [V_block]
  simp (disch := omega) only [push_cast, Nat.reduceEqDiff, h0, h1', h4]
  refine ldOne Shp.eq (List.mem_cons_of_mem _ (List.mem_append_right _ hbm)) hget ?_
  simp (disch := omega) only [push_cast, Nat.reduceEqDiff, h0, h1', h4]
  have hszv : SizeOf.sizeOf v.ls ≤ n := by
    have q1 := List.sizeOf_lt_of_mem (List.mem_of_getElem? hv)
    have q2 : SizeOf.sizeOf v.ls < SizeOf.sizeOf v := by cases v; simp only [Vl.ls, Vl.mk.sizeOf_spec]; omega
    omega
  have hway : Value.slice x1.at_ v.ls.length x1.c = x1.way := by rw [Rw.way, y2]
  rw [hway]
  subst hits
  simp only [List.length_append, List.length_cons] at hsm
  refine callV en_41 (callX_base (fun w' hw' => hT wb w' bk va2 R2 M (ws ++ (x :: itsA).map Rw.way) x1 its1' v.ls hszv y1 y2 y5 hro2 (fun p hp => him p (by rw [ownR_append, ownR_append, ownR_cons]; simp [hp])) (fun p hp => him p (by rw [ownR_append, ownR_append, ownR_cons]; simp [hp])) hM hbk (by simp only [List.length_append, List.length_map, List.length_cons]; omega) hw') ?_)
  rintro e' w' ⟨rfl, va3, R3, q1, q2⟩
  refine ⟨_, _, rfl, q2, ?_⟩
  simp (disch := omega) only [push_cast, Nat.reduceEqDiff, h0, h1', h4]
  refine ⟨i + 1, _, fun w hw => hw, ⟨rfl, rfl, by omega, h0, h1, by simp only [upd]; rfl, va3, R3, itsA ++ (x1 :: its1'), its2, by simp, ?_, ?_, rfl⟩, by omega⟩
  · have q3 : (x.cs.take (x.n * 4)).drop ((i + 1) * 4) = cs' := by
      rw [show (i + 1) * 4 = i * 4 + 4 by omega, ← List.drop_drop, hcs]
      rfl
    rw [q3]
    exact hk2
  · have q3 : ws ++ (x :: (itsA ++ x1 :: its1')).map Rw.way = ws ++ (x :: itsA).map Rw.way ++ (x1 :: its1').map Rw.way := by simp
    rw [q3]
    simpa [RowW] using q1
theorem values_all : ∀ n, BvOK n := by
  intro n
  induction n with
  | zero =>
    intro wb w bk va R M ws x its ls hn
    cases ls <;> simp at hn
  | succ n ih => exact values_step n ih
theorem bookValue_walk (wb w : World) (bk : Nat) (va : Value) (R M : Own) (ws : List Value) (v : Vl) (its : List Rw) (a : Option Addr) (c : Nat) (hZ : ZeV v its a c) (hro : RowW wb R va ws) (him : ∀ p ∈ ownR its, p ∈ M) (hM : ∀ p ∈ M, wb.heap.size ≤ p.1) (hbk : wb.heap.size ≤ bk) (hsm : ws.length + its.length ≤ 1000000) (hw : Sy wb (BkO bk va :: (R ++ M)) w) :
    Calls Tryd.prog 21 #[.pointer (some ⟨bk, 0, none⟩), .agg (v.cells a c).toArray] w (fun e w' => e = .returned (.tuple #[]) ∧ ∃ va' R', RowW wb R' va' (ws ++ its.map Rw.way) ∧ Sy wb (BkO bk va' :: (R' ++ M)) w') := by
  obtain ⟨u1, u2, x, its', rfl, y1, y2, rfl, rfl, y5⟩ := (ZeV_iff _ _ _ _).1 hZ
  refine enterB (args := [.pointer (some ⟨bk, 0, none⟩), .agg (v.cells x.at_ x.c).toArray]) Tryd.func21 rfl Tryd.ntmps21 (congrArg Array.toList Tryd.results21) (by kernel_rfl) (by simp) hw ?_
  simp (disch := omega) only [push_cast, Nat.reduceEqDiff, Vl.cells]
  refine newI (fun b3 hb3 hn3 => ?_)
  simp (disch := omega) only [push_cast, Nat.reduceEqDiff, Vl.cells]
  refine ldOne Shp.eq mem0 rfl ?_
  simp (disch := omega) only [push_cast, Nat.reduceEqDiff]
  have hway : Value.slice x.at_ v.ls.length x.c = x.way := by rw [Rw.way, y2]
  rw [hway]
  refine callV en_41 (callX_base (fun w' hw' => values_all _ wb w' bk va R ((b3, Obj.cells #[.bool v.nu, i64 v.num, str v.tx, x.way] 29 (0, 0)) :: M) ws x its' v.ls (Nat.le_refl _) y1 y2 y5 hro (fun p hp => List.mem_cons_of_mem _ (him p (by rw [ownR_cons]; simp [hp]))) (fun p hp => List.mem_cons_of_mem _ (him p (by rw [ownR_cons]; simp [hp]))) (fun p hp => by
    rcases List.mem_cons.1 hp with rfl | hp
    · exact hb3
    · exact hM p hp) hbk (by simpa using hsm) (hw'.perm ((List.Perm.swap _ _ _).trans (List.perm_middle.symm.cons _)))) ?_)
  rintro e' w' ⟨rfl, va3, R3, q1, q2⟩
  refine ⟨_, BkO bk va3 :: (R3 ++ M), rfl, q2.mid (BkO bk va3 :: R3) [_] (fun p hp => by rw [List.mem_singleton.1 hp]; exact hb3), ?_⟩
  simp (disch := omega) only [push_cast, Nat.reduceEqDiff]
  exact fun w' hw' => ⟨va3, R3, q1, hw'⟩
end Go.Proofs.YtjkogfiidhjpcaaDoor
/- YtjkogfiidhjpcaaDoor: walks, part 138: Book: does a list of values bear a mark? -/
namespace Go.Proofs.YtjkogfiidhjpcaaDoor
open Go Go.K
set_option maxRecDepth 100000
set_option linter.unusedVariables false
set_option linter.unusedSimpArgs false
set_option maxHeartbeats 4000000
/-- The mark of number k, as cells. -/
def markC (k : Nat) : List Value := [.bool false, i64 (1000 + k), str [], .slice none 0 0]
structure VdI (w0 : World) (a : Option Addr) (n c k : Nat) (i : Nat) (wb : World) (e : Env) (ds : List Deferred) (L : Own) : Prop where
  hw : wb = w0
  hds : ds = []
  o : L = []
  hi : i ≤ n
  h0 : e 0 = .slice a n c
  h1 : e 1 = i64 k
  h5 : e 5 = i64 i
theorem valued_walk (w : World) (a : Option Addr) (n c k : Nat) (hk : k ≤ 1000000) (hn : n ≤ 9223372036854775807) (h : ∀ i, i < n → ∃ b, a = some ⟨b, 0, none⟩ ∧ At w b (i * 4) (markC k)) :
    Calls Tryd.prog 42 #[.slice a n c, i64 k] w (Rets w (Is (.bool true))) := by
  refine enterT (args := [.slice a n c, i64 k]) Tryd.func42 rfl Tryd.ntmps42 (congrArg Array.toList Tryd.results42) (by kernel_rfl) (by simp) (Sy.refl w) ?_
  simp (disch := omega) only [push_cast, Nat.reduceEqDiff]
  rw [V_block]
  simp (disch := omega) only [push_cast, Nat.reduceEqDiff]
  refine loopW (G := Nat) (VdI w a n c k) (fun i => n - i) 0 _ (fun w hw => hw) (by kernel_rfl) ⟨rfl, rfl, rfl, by omega, rfl, rfl, rfl⟩ ?_
  rintro i wb e ds L ⟨rfl, rfl, rfl, hi, h0, h1, h5⟩
  simp (disch := omega) only [push_cast, Nat.reduceEqDiff, h0, h1, h5]
  rw [V_cond]
  simp (disch := omega) only [push_cast, Nat.reduceEqDiff, h0, h1, h5]
  refine condX_d (fun hlt => ?_) (fun hge => ?_)
  rotate_left
  · simp (disch := omega) only [push_cast, Nat.reduceEqDiff, h0, h1, h5]
    exact finIs (by simp) rfl
  obtain ⟨b, rfl, hat⟩ := h i (by omega)
  have s0 : At wb b (i * 4) [.bool false] := by simpa using hat.sub 0 _ rfl
  have s1 : At wb b (i * 4 + 1) [i64 (1000 + k)] := hat.sub 1 _ rfl
  have s2 : At wb b (i * 4 + 2) [str []] := hat.sub 2 _ rfl
  have s3 : At wb b (i * 4 + 3) [.slice none 0 0] := hat.sub 3 _ rfl
  simp (disch := omega) only [push_cast, Nat.reduceEqDiff, h0, h1, h5]
  rw [V_block]
  simp (disch := omega) only [push_cast, Nat.reduceEqDiff, h0, h1, h5]
  refine ldF Shp.eq s1 (by simp) ?_
  simp (disch := omega) only [push_cast, Nat.reduceEqDiff, h0, h1, h5, ne_eq, not_true_eq_false, decide_false]
  refine ldF Shp.eq s0 (by simp) ?_
  simp (disch := omega) only [push_cast, Nat.reduceEqDiff, h0, h1, h5, ne_eq, not_true_eq_false, decide_false]
  refine ldF Shp.eq s2 (by simp) ?_
  simp (disch := omega) only [push_cast, Nat.reduceEqDiff, h0, h1, h5, ne_eq, not_true_eq_false, decide_false]
  refine ldF Shp.eq s3 (by simp) ?_
  simp (disch := omega) only [push_cast, Nat.reduceEqDiff, h0, h1, h5, ne_eq, not_true_eq_false, decide_false]
  rw [V_cond]
  simp (disch := omega) only [push_cast, Nat.reduceEqDiff, h0, h1, h5, ne_eq, not_true_eq_false, decide_false]
  exact ⟨i + 1, _, fun w hw => hw, ⟨rfl, rfl, rfl, by omega, h0, h1, by simp only [upd]; rfl⟩, by omega⟩
end Go.Proofs.YtjkogfiidhjpcaaDoor
/- YtjkogfiidhjpcaaDoor: plain law: rows of values that are written full of marks. -/
namespace Go.Proofs.YtjkogfiidhjpcaaDoor
open Go Go.K
set_option linter.unusedVariables false
set_option linter.unusedSimpArgs false
/-- So many marks of number i. -/
def marks (i : Nat) : Nat → List Value
  | 0 => []
  | k + 1 => marks i k ++ markC i
theorem marks_len (i : Nat) : ∀ k, (marks i k).length = k * 4
  | 0 => rfl
  | k + 1 => by rw [marks, List.length_append, marks_len i k]; simp [markC]; omega
theorem marks_one (i : Nat) : ∀ k, ∀ u ∈ marks i k, u.oneCell' = true
  | 0, u, hu => by cases hu
  | k + 1, u, hu => by
    rw [marks, List.mem_append] at hu
    rcases hu with hu | hu
    · exact marks_one i k u hu
    · revert u
      simp [markC, Value.oneCell']
/-- A row the first k of whose values are marks. -/
def Rw.mrk (x : Rw) (i k : Nat) : Rw := { x with cs := marks i k ++ x.cs.drop (k * 4) }
theorem Rw.mrk_zero (x : Rw) (i : Nat) : x.mrk i 0 = x := by
  unfold Rw.mrk
  simp [marks]
theorem Rw.mrk_way (x : Rw) (i k : Nat) : (x.mrk i k).way = x.way := rfl
theorem Rw.mrk_ok {x : Rw} (h : x.OK) (i k : Nat) (hk : k ≤ x.n) : (x.mrk i k).OK := by
  rcases h with ⟨h1, h2, h3⟩ | ⟨h1, h2, h3, h4⟩
  · exact .inl ⟨h1, h2, h3⟩
  · refine .inr ⟨h1, h2, h3, ?_⟩
    show (marks i k ++ x.cs.drop (k * 4)).length = x.c * 4
    rw [List.length_append, marks_len, List.length_drop, h4]
    have : k * 4 ≤ x.c * 4 := Nat.mul_le_mul_right 4 (Nat.le_trans hk h2)
    omega
/-- One more value of a row is written over by the mark. -/
theorem Rw.mrk_succ {x : Rw} (h : x.OK) (i k : Nat) (hk : k < x.n) : splice (x.mrk i k).cs (k * 4) (markC i) = (x.mrk i (k + 1)).cs := by
  rcases h with ⟨h1, h2, h3⟩ | ⟨h1, h2, h3, h4⟩
  · omega
  show splice (marks i k ++ x.cs.drop (k * 4)) (k * 4) (markC i) = marks i (k + 1) ++ x.cs.drop ((k + 1) * 4)
  unfold splice
  have hl := marks_len i k
  have e1 : (marks i k ++ x.cs.drop (k * 4)).take (k * 4) = marks i k := by
    rw [← hl, List.take_left]
  have e2 : (marks i k ++ x.cs.drop (k * 4)).drop (k * 4 + (markC i).length) = x.cs.drop ((k + 1) * 4) := by
    rw [← List.drop_drop]
    have : (marks i k ++ x.cs.drop (k * 4)).drop (k * 4) = x.cs.drop (k * 4) := by rw [← hl, List.drop_left]
    rw [this, List.drop_drop]
    congr 1
    simp [markC]
    omega
  rw [e1, e2, marks, List.append_assoc]
/-- A mark in a row of marks. -/
theorem marks_get (i : Nat) : ∀ {n k : Nat}, k < n → ((marks i n).drop (k * 4)).take 4 = markC i
  | 0, k, h => by omega
  | n + 1, k, h => by
    rw [marks]
    rcases Nat.lt_or_ge k n with hk | hk
    · rw [List.drop_append_of_le_length (by rw [marks_len]; omega), List.take_append_of_le_length (by rw [List.length_drop, marks_len]; omega)]
      exact marks_get i hk
    · obtain rfl : k = n := by omega
      rw [← marks_len i k, List.drop_left]
      rfl
end Go.Proofs.YtjkogfiidhjpcaaDoor
/- YtjkogfiidhjpcaaDoor: plain law: rows that are marked one after the other. -/
namespace Go.Proofs.YtjkogfiidhjpcaaDoor
open Go Go.K
set_option linter.unusedVariables false
set_option linter.unusedSimpArgs false
/-- Rows, each full of the mark of its number; the first one's number is given. -/
def mrkd : Nat → List Rw → List Rw
  | _, [] => []
  | j, x :: l => x.mrk j x.n :: mrkd (j + 1) l
theorem mrkd_append : ∀ (l m : List Rw) (j : Nat), mrkd j (l ++ m) = mrkd j l ++ mrkd (j + l.length) m
  | [], m, j => by simp [mrkd]
  | x :: l, m, j => by
    rw [List.cons_append, mrkd, mrkd, mrkd_append l m (j + 1), List.length_cons, show j + 1 + l.length = j + (l.length + 1) by omega]
    rfl
theorem mrkd_ways : ∀ (l : List Rw) (j : Nat), (mrkd j l).map Rw.way = l.map Rw.way
  | [], j => rfl
  | x :: l, j => by rw [mrkd, List.map_cons, List.map_cons, mrkd_ways l (j + 1), Rw.mrk_way]
theorem mrkd_len : ∀ (l : List Rw) (j : Nat), (mrkd j l).length = l.length
  | [], j => rfl
  | x :: l, j => by rw [mrkd, List.length_cons, List.length_cons, mrkd_len l (j + 1)]
theorem mrkd_get : ∀ {l : List Rw} {i : Nat} {x : Rw} (j : Nat), l[i]? = some x → (mrkd j l)[i]? = some (x.mrk (j + i) x.n)
  | [], i, x, j, h => by simp at h
  | y :: l, 0, x, j, h => by
    simp only [List.getElem?_cons_zero, Option.some.injEq] at h
    subst h
    rw [mrkd]
    rfl
  | y :: l, i + 1, x, j, h => by
    simp only [List.getElem?_cons_succ] at h
    rw [mrkd, List.getElem?_cons_succ, mrkd_get (j + 1) h, show j + 1 + i = j + (i + 1) by omega]
theorem rw_split {l : List Rw} {i : Nat} {x : Rw} (h : l[i]? = some x) : l = l.take i ++ x :: l.drop (i + 1) := by
  obtain ⟨q1, rfl⟩ := List.getElem?_eq_some_iff.1 h
  rw [← List.drop_eq_getElem_cons q1, List.take_append_drop]
theorem rw_split1 {l : List Rw} {i : Nat} {x : Rw} (h : l[i]? = some x) : l.take (i + 1) = l.take i ++ [x] := by
  rw [List.take_add_one, h]
  rfl
end Go.Proofs.YtjkogfiidhjpcaaDoor
