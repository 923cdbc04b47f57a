/- YtjkogfiidhjpcaaDoor: walks, part 89: are two values the same. -/
import Derived.Test.YtjkogfiidhjpcaaDoorW85
namespace Go.Proofs.YtjkogfiidhjpcaaDoor
open Go Go.K
set_option maxRecDepth 100000
set_option linter.unusedVariables false
set_option linter.unusedSimpArgs false
set_option maxHeartbeats 2000000
mutual
/-- Are two values the same? -/
def sameV : Vl → Vl → Bool
  | .mk n1 z1 t1 l1, .mk n2 z2 t2 l2 => (n1 == n2) && (decide (z1 = z2) && (decide (t1 = t2) && sameL l1 l2))
def sameL : List Vl → List Vl → Bool
  | [], [] => true
  | x :: xs, y :: ys => sameV x y && sameL xs ys
  | [], _ :: _ => false
  | _ :: _, [] => false
end
theorem sameV_eq (a b : Vl) : sameV a b = ((a.nu == b.nu) && (decide (a.num = b.num) && (decide (a.tx = b.tx) && sameL a.ls b.ls))) := by
  cases a; cases b; rw [sameV]; rfl
mutual
theorem sameV_iff : ∀ (a b : Vl), sameV a b = true ↔ a = b
  | .mk n1 z1 t1 l1, .mk n2 z2 t2 l2 => by
    rw [sameV, Vl.mk.injEq, ← sameL_iff l1 l2]
    simp
theorem sameL_iff : ∀ (a b : List Vl), sameL a b = true ↔ a = b
  | [], [] => by simp [sameL]
  | x :: xs, y :: ys => by rw [sameL, List.cons.injEq, ← sameL_iff xs ys, ← sameV_iff x y]; simp
  | [], _ :: _ => by simp [sameL]
  | _ :: _, [] => by simp [sameL]
end
theorem sameL_len {a b : List Vl} (h : a.length ≠ b.length) : sameL a b = false := by
  rcases hb : sameL a b with _ | _
  · rfl
  · rw [sameL_iff] at hb; exact absurd (congrArg List.length hb) h
theorem sameL_step {i : Nat} {la lb : List Vl} {x y : Vl} (hx : la[i]? = some x) (hy : lb[i]? = some y) : sameL (la.drop i) (lb.drop i) = (sameV x y && sameL (la.drop (i + 1)) (lb.drop (i + 1))) := by
  obtain ⟨h1, rfl⟩ := List.getElem?_eq_some_iff.1 hx
  obtain ⟨h2, rfl⟩ := List.getElem?_eq_some_iff.1 hy
  rw [List.drop_eq_getElem_cons h1, List.drop_eq_getElem_cons h2, sameL]
theorem Vl.size_get {v x : Vl} {i : Nat} (h : v.ls[i]? = some x) : SizeOf.sizeOf x < SizeOf.sizeOf v := by
  have h1 := List.sizeOf_lt_of_mem (List.mem_of_getElem? h)
  cases v
  simp only [Vl.ls, Vl.mk.sizeOf_spec] at h1 ⊢
  omega
structure SaI (w0 : World) (b2 b3 : Nat) (x y : Vl) (xa ya : Option Addr) (xc yc : Nat) (i : Nat) (wb : World) (e : Env) (ds : List Deferred) (L : Own) : Prop where
  hw : wb = w0
  hds : ds = []
  o : L = [(b3, Obj.cells #[.bool y.nu, i64 y.num, str y.tx, .slice ya y.ls.length yc] 29 (0, 0)), (b2, Obj.cells #[.bool x.nu, i64 x.num, str x.tx, .slice xa x.ls.length xc] 29 (0, 0))]
  hi : i ≤ x.ls.length
  hr : sameL (x.ls.drop i) (y.ls.drop i) = sameL x.ls y.ls
  h2 : e 2 = .pointer (some ⟨b2, 0, none⟩)
  h3 : e 3 = .pointer (some ⟨b3, 0, none⟩)
  h36 : e 36 = i64 x.ls.length
  h37 : e 37 = i64 i
theorem same_all : ∀ (n : Nat) (w : World) (lo : Nat) (x y : Vl) (xa ya : Option Addr) (xc yc : Nat), SizeOf.sizeOf x ≤ n → lo ≤ w.heap.size → VAt w lo x xa xc → VAt w lo y ya yc →
    Calls Tryd.prog 10 #[.agg (x.cells xa xc).toArray, .agg (y.cells ya yc).toArray] w (Rets w (Is (.bool (sameV x y)))) := by
  intro n
  induction n with
  | zero => intro w lo x y xa ya xc yc hn; cases x; simp at hn
  | succ n ih =>
  intro w lo x y xa ya xc yc hn hlo hX hY
  have hbnd : x.ls.length ≤ 9223372036854775807 := Nat.le_trans hX.hc hX.hc2
  have hbndy : y.ls.length ≤ 9223372036854775807 := Nat.le_trans hY.hc hY.hc2
  refine enterT (args := [.agg (x.cells xa xc).toArray, .agg (y.cells ya yc).toArray]) Tryd.func10 rfl Tryd.ntmps10 (congrArg Array.toList Tryd.results10) (by kernel_rfl) (by simp) (Sy.refl w) ?_
  simp (disch := omega) only [push_cast, Nat.reduceEqDiff, Vl.cells]
  refine newI (fun b2 hb2 hn2 => ?_)
  simp (disch := omega) only [push_cast, Nat.reduceEqDiff, Vl.cells]
  refine newI (fun b3 hb3 hn3 => ?_)
  simp (disch := omega) only [push_cast, Nat.reduceEqDiff, Vl.cells]
  have hL : ∀ x y : Obj, ∀ p ∈ [(b3, x), (b2, y)], w.heap.size ≤ p.1 := fun x y p hp => by
    simp only [List.mem_cons, List.mem_nil_iff, or_false] at hp
    rcases hp with rfl | rfl
    · exact hb3
    · exact hb2
  refine ldOne Shp.eq mem1 rfl ?_
  simp (disch := omega) only [push_cast, Nat.reduceEqDiff]
  refine ldOne Shp.eq mem0 rfl ?_
  simp (disch := omega) only [push_cast, Nat.reduceEqDiff]
  refine guardX_bf rfl (fun hn1 => ?_) (fun hn1 => ?_)
  rotate_left
  · simp (disch := omega) only [push_cast, Nat.reduceEqDiff]
    rw [V_cond]
    simp (disch := omega) only [push_cast, Nat.reduceEqDiff]
    exact finIs (hL _ _) (congrArg Value.bool (by rw [sameV_eq, show (x.nu == y.nu) = false by simpa [bne] using hn1]; rfl))
  have hnu : (x.nu == y.nu) = true := by simpa [bne] using hn1
  simp (disch := omega) only [push_cast, Nat.reduceEqDiff]
  refine ldOne Shp.eq mem1 rfl ?_
  simp (disch := omega) only [push_cast, Nat.reduceEqDiff]
  refine ldOne Shp.eq mem0 rfl ?_
  simp (disch := omega) only [push_cast, Nat.reduceEqDiff]
  refine guardX_f rfl (fun hn2 => ?_) (fun hn2 => ?_)
  rotate_left
  · simp (disch := omega) only [push_cast, Nat.reduceEqDiff]
    rw [V_cond]
    simp (disch := omega) only [push_cast, Nat.reduceEqDiff]
    exact finIs (hL _ _) (congrArg Value.bool (by rw [sameV_eq, decide_eq_false hn2, hnu]; rfl))
  have hnm : x.num = y.num := Decidable.not_not.1 hn2
  simp (disch := omega) only [push_cast, Nat.reduceEqDiff]
  refine ldOne Shp.eq mem1 rfl ?_
  simp (disch := omega) only [push_cast, Nat.reduceEqDiff]
  refine ldOne Shp.eq mem0 rfl ?_
  simp (disch := omega) only [push_cast, Nat.reduceEqDiff]
  refine guardX_f rfl (fun hn3 => ?_) (fun hn3 => ?_)
  rotate_left
  · simp (disch := omega) only [push_cast, Nat.reduceEqDiff]
    rw [V_cond]
    simp (disch := omega) only [push_cast, Nat.reduceEqDiff]
    exact finIs (hL _ _) (congrArg Value.bool (by rw [sameV_eq, decide_eq_false hn3, hnu, decide_eq_true hnm]; rfl))
  have hnt : x.tx = y.tx := Decidable.not_not.1 hn3
  simp (disch := omega) only [push_cast, Nat.reduceEqDiff]
  refine ldOne Shp.eq mem1 rfl ?_
  simp (disch := omega) only [push_cast, Nat.reduceEqDiff]
  refine ldOne Shp.eq mem0 rfl ?_
  simp (disch := omega) only [push_cast, Nat.reduceEqDiff]
  rw [V_cond]
  simp (disch := omega) only [push_cast, Nat.reduceEqDiff]
  refine condX_d (fun hn4 => ?_) (fun hn4 => ?_)
  · simp (disch := omega) only [push_cast, Nat.reduceEqDiff]
    exact finIs (hL _ _) (congrArg Value.bool (by rw [sameV_eq, sameL_len (by omega), hnu, decide_eq_true hnm, decide_eq_true hnt]; rfl))
  have hlen : x.ls.length = y.ls.length := by omega
  have hres : sameV x y = sameL x.ls y.ls := by rw [sameV_eq, hnu, decide_eq_true hnm, decide_eq_true hnt]; rfl
  simp (disch := omega) only [push_cast, Nat.reduceEqDiff]
  refine ldOne Shp.eq mem1 rfl ?_
  simp (disch := omega) only [push_cast, Nat.reduceEqDiff]
  refine forget (fun e => e 2 = .pointer (some ⟨b2, 0, none⟩) ∧ e 3 = .pointer (some ⟨b3, 0, none⟩) ∧ e 36 = i64 x.ls.length ∧ e 37 = i64 0) ⟨rfl, rfl, rfl, rfl⟩ ?_
  rintro e ⟨h2, h3, h36, h37⟩
  rw [V_block]
  simp (disch := omega) only [push_cast, Nat.reduceEqDiff, h2, h3, h36, h37]
  refine loopW (G := Nat) (SaI w b2 b3 x y xa ya xc yc) (fun i => x.ls.length - i) 0 _ (fun w hw => hw) (by kernel_rfl) ⟨rfl, rfl, rfl, by omega, rfl, h2, h3, h36, by simpa using h37⟩ ?_
  clear h2 h3 h36 h37 e
  rintro i wb e ds L ⟨rfl, rfl, rfl, hi, hr, h2, h3, h36, h37⟩
  simp (disch := omega) only [push_cast, Nat.reduceEqDiff, h2, h3, h36, h37]
  rw [V_cond]
  simp (disch := omega) only [push_cast, Nat.reduceEqDiff, h2, h3, h36, h37]
  refine condX_d (fun hlt => ?_) (fun hge => ?_)
  rotate_left
  · simp (disch := omega) only [push_cast, Nat.reduceEqDiff, h2, h3, h36, h37]
    obtain rfl : i = x.ls.length := by omega
    rw [List.drop_length, hlen, List.drop_length] at hr
    exact finIs (hL _ _) (congrArg Value.bool (by rw [hres, ← hr]; rfl))
  have hlx : i < x.ls.length := by omega
  have hly : i < y.ls.length := by omega
  obtain ⟨p, hp⟩ : ∃ p, x.ls[i]? = some p := ⟨_, List.getElem?_eq_getElem hlx⟩
  obtain ⟨q, hq⟩ : ∃ q, y.ls[i]? = some q := ⟨_, List.getElem?_eq_getElem hly⟩
  have hsz := Vl.size_get hp
  obtain ⟨pb, poff, pa, pc, rfl, p1, p2, p3⟩ := hX.get hp
  obtain ⟨qb, qoff, qa, qc, rfl, r1, r2, r3⟩ := hY.get hq
  simp (disch := omega) only [push_cast, Nat.reduceEqDiff, h2, h3, h36, h37]
  rw [V_block]
  simp (disch := omega) only [push_cast, Nat.reduceEqDiff, h2, h3, h36, h37]
  refine drawQT (by kernel_rfl) (by kernel_rfl) mixed (by kernel_rfl) ?_
  simp (disch := omega) only [push_cast, Nat.reduceEqDiff, h2, h3, h36, h37]
  refine ldOne Shp.eq mem1 rfl ?_
  simp (disch := omega) only [push_cast, Nat.reduceEqDiff, h2, h3, h36, h37]
  refine ldAggF Shp.eq p2 rfl (out_of (fun p hp => Nat.lt_of_lt_of_le (Nat.lt_of_lt_of_le p1 hlo) (hL _ _ p hp))) ?_
  simp (disch := omega) only [push_cast, Nat.reduceEqDiff, h2, h3, h36, h37, Vl.cells]
  refine ldOne Shp.eq mem0 rfl ?_
  simp (disch := omega) only [push_cast, Nat.reduceEqDiff, h2, h3, h36, h37]
  refine ldAggF Shp.eq r2 rfl (out_of (fun p hp => Nat.lt_of_lt_of_le (Nat.lt_of_lt_of_le r1 hlo) (hL _ _ p hp))) ?_
  simp (disch := omega) only [push_cast, Nat.reduceEqDiff, h2, h3, h36, h37, Vl.cells]
  refine qcallV en_10 (qcallX_is (.bool (sameV p q)) (fun w' hw' => ih w' lo p q pa qa pc qc (by omega) (Nat.le_trans hlo hw'.size) (p3.sy hlo hw' (hL _ _)) (r3.sy hlo hw' (hL _ _))) ?_)
  simp (disch := omega) only [push_cast, Nat.reduceEqDiff, h2, h3, h36, h37]
  rw [V_cond]
  simp (disch := omega) only [push_cast, Nat.reduceEqDiff, h2, h3, h36, h37]
  refine condX_b (fun hne => ?_) (fun hne => ?_)
  · simp (disch := omega) only [push_cast, Nat.reduceEqDiff, h2, h3, h36, h37]
    exact finIs (hL _ _) (congrArg Value.bool (by rw [Bool.not_eq_true'] at hne; rw [hres, ← hr, sameL_step hp hq, hne]; rfl))
  · simp (disch := omega) only [push_cast, Nat.reduceEqDiff, h2, h3, h36, h37]
    rw [Bool.not_eq_false'] at hne
    refine ⟨i + 1, _, fun w hw => hw, ⟨rfl, rfl, rfl, by omega, by rw [← hr, sameL_step hp hq, hne]; rfl, h2, h3, h36, by simp only [upd]; rfl⟩, by omega⟩
end Go.Proofs.YtjkogfiidhjpcaaDoor
/- YtjkogfiidhjpcaaDoor: walks, part 90: the hash of a value. -/
namespace Go.Proofs.YtjkogfiidhjpcaaDoor
open Go Go.K
set_option maxRecDepth 100000
set_option linter.unusedVariables false
set_option linter.unusedSimpArgs false
set_option maxHeartbeats 40000000
theorem bin_shr64 {P : Program} {K : Value → Prop} (t : TypeId) (x y : Operand) (n : Int) : PureX P (binV .shr t x y (.int .u64 n) (.int .u64 8)) (tag K) = K (.int .u64 (n / 256)) := px (fun w => by simp [binV, eqGuard, binOp, shift_shr_any, IntKind.bits]) K
abbrev hashO (bh : Nat) (h : Int) : Nat × Obj := (bh, Obj.cells #[.int .u64 h] 59 (0, 0))
def takeP (h c : Int) : Int := IntKind.u64.wrap (bits .xor .u64 h (IntKind.u64.wrap c) * 1099511628211)
def HashR (wb : World) (bh : Nat) (h : Int) (R : Own) : Ending → World → Prop := fun e w' => e = .returned (.tuple #[]) ∧ Sy wb (hashO bh h :: R) w'
theorem take_walk (wb w : World) (bh : Nat) (h c : Int) (R : Own) (hw : Sy wb (hashO bh h :: R) w) (hR : ∀ p ∈ hashO bh h :: R, wb.heap.size ≤ p.1) :
    Calls Tryd.prog 55 #[.pointer (some ⟨bh, 0, none⟩), .int .u8 c] w (HashR wb bh (takeP h c) R) := by
  refine enterB (args := [.pointer (some ⟨bh, 0, none⟩), .int .u8 c]) Tryd.func55 rfl Tryd.ntmps55 (congrArg Array.toList Tryd.results55) (by kernel_rfl) (by simp) hw ?_
  simp (disch := omega) only [push_cast, Nat.reduceEqDiff]
  refine ldOne Shp.eq mem0 rfl ?_
  simp (disch := omega) only [push_cast, Nat.reduceEqDiff]
  refine ⟨.int .u64 (bits .xor .u64 h (IntKind.u64.wrap c)), fun w => rfl, ?_⟩
  simp (disch := omega) only [push_cast, Nat.reduceEqDiff]
  refine storeX 0 rfl Siz.eq rfl rfl (by simp [Value.oneCell']) (by simp) ?_
  simp (disch := omega) only [push_cast, Nat.reduceEqDiff]
  exact fun w' hw' => ⟨rfl, hw'⟩
/-- Eight bytes of a number. -/
def numP : Nat → Int → Int → Int
  | 0, h, _ => h
  | n + 1, h, x => numP n (takeP h (IntKind.u8.wrap x)) (x / 256)
structure NuI (w0 : World) (bh : Nat) (R : Own) (h x : Int) (i : Nat) (wb : World) (e : Env) (ds : List Deferred) (L : Own) : Prop where
  hw : wb = w0
  hds : ds = []
  o : ∃ k y, L = hashO bh k :: R ∧ numP (8 - i) k y = numP 8 h x ∧ e 1 = .int .u64 y ∧ 0 ≤ y ∧ y < 18446744073709551616
  hi : i ≤ 8
  h0 : e 0 = .pointer (some ⟨bh, 0, none⟩)
  h4 : e 4 = i64 i
theorem number_walk (wb w : World) (bh : Nat) (h x : Int) (R : Own) (hx0 : 0 ≤ x) (hx1 : x < 18446744073709551616) (hw : Sy wb (hashO bh h :: R) w) (hR : ∀ p ∈ hashO bh h :: R, wb.heap.size ≤ p.1) :
    Calls Tryd.prog 56 #[.pointer (some ⟨bh, 0, none⟩), .int .u64 x] w (HashR wb bh (numP 8 h x) R) := by
  refine enterB (args := [.pointer (some ⟨bh, 0, none⟩), .int .u64 x]) Tryd.func56 rfl Tryd.ntmps56 (congrArg Array.toList Tryd.results56) (by kernel_rfl) (by simp) hw ?_
  simp (disch := omega) only [push_cast, Nat.reduceEqDiff]
  rw [V_block]
  simp (disch := omega) only [push_cast, Nat.reduceEqDiff]
  refine loopW (G := Nat) (NuI wb bh R h x) (fun i => 8 - i) 0 _ (fun w hw => hw) (by kernel_rfl) ⟨rfl, rfl, ⟨h, x, rfl, rfl, rfl, hx0, hx1⟩, by omega, rfl, rfl⟩ ?_
  rintro i wb e ds L ⟨rfl, rfl, ⟨k, y, rfl, hk, h1, hy0, hy1⟩, hi, h0, h4⟩
  simp (disch := omega) only [push_cast, Nat.reduceEqDiff, h0, h1, h4]
  rw [V_cond]
  simp (disch := omega) only [push_cast, Nat.reduceEqDiff, h0, h1, h4]
  refine condX_d (fun hlt => ?_) (fun hge => ?_)
  rotate_left
  · simp (disch := omega) only [push_cast, Nat.reduceEqDiff, h0, h1, h4]
    obtain rfl : i = 8 := by omega
    rw [show numP (8 - 8) k y = k from rfl] at hk
    exact fun w' hw' => ⟨rfl, by subst hk; exact hw'⟩
  simp (disch := omega) only [push_cast, Nat.reduceEqDiff, h0, h1, h4]
  rw [V_block]
  simp (disch := omega) only [push_cast, Nat.reduceEqDiff, h0, h1, h4]
  refine callV en_55 (callX_base (fun w' hw' => take_walk wb w' bh k _ R hw' (fun p hp => by
    rcases List.mem_cons.1 hp with rfl | hp
    · exact hR (hashO bh h) (.head _)
    · exact hR p (.tail _ hp))) ?_)
  rintro e' w' ⟨rfl, hs⟩
  refine ⟨_, _, rfl, hs, ?_⟩
  simp (disch := omega) only [push_cast, Nat.reduceEqDiff, h0, h1, h4]
  rw [bin_shr64]
  simp (disch := omega) only [push_cast, Nat.reduceEqDiff, h0, h1, h4]
  refine ⟨i + 1, _, fun w hw => hw, ⟨rfl, rfl, ⟨_, _, rfl, ?_, by simp only [upd]; rfl, by omega, by omega⟩, by omega, h0, by simp only [upd]; rfl⟩, by omega⟩
  rw [← hk, show 8 - i = (8 - (i + 1)) + 1 by omega, numP]
theorem num_of_u64 (n : Int) : 0 ≤ IntKind.u64.wrap n ∧ IntKind.u64.wrap n < 18446744073709551616 := by rw [wrap_u64]; omega
/-- The bytes of a text. -/
def bytesP : List UInt8 → Int → Int
  | [], h => h
  | c :: l, h => bytesP l (takeP h c.toNat)
mutual
/-- A value's hash, going on from one. -/
def hashV : Vl → Int → Int
  | .mk nu num tx ls, h => hashL ls (numP 8 (bytesP tx (numP 8 (numP 8 (takeP h (if nu = true then 1 else 0)) (IntKind.u64.wrap num)) (IntKind.u64.wrap (tx.length : Int)))) (IntKind.u64.wrap (ls.length : Int)))
def hashL : List Vl → Int → Int
  | [], h => h
  | v :: l, h => hashL l (hashV v h)
end
theorem hashV_eq (v : Vl) (h : Int) : hashV v h = hashL v.ls (numP 8 (bytesP v.tx (numP 8 (numP 8 (takeP h (if v.nu = true then 1 else 0)) (IntKind.u64.wrap v.num)) (IntKind.u64.wrap (v.tx.length : Int)))) (IntKind.u64.wrap (v.ls.length : Int))) := by
  cases v; rw [hashV]; rfl
structure HbI (w0 : World) (bh b3 : Nat) (R : Own) (v : Vl) (va : Option Addr) (vc : Nat) (h : Int) (i : Nat) (wb : World) (e : Env) (ds : List Deferred) (L : Own) : Prop where
  hw : wb = w0
  hds : ds = []
  o : ∃ k, L = hashO bh k :: (b3, Obj.cells #[.bool v.nu, i64 v.num, str v.tx, .slice va v.ls.length vc] 29 (0, 0)) :: R ∧ bytesP (v.tx.drop i) k = bytesP v.tx h
  hi : i ≤ v.tx.length
  h0 : e 0 = .pointer (some ⟨bh, 0, none⟩)
  h3 : e 3 = .pointer (some ⟨b3, 0, none⟩)
  h26 : e 26 = i64 v.tx.length
  h27 : e 27 = i64 i
structure HlI (w0 : World) (bh b3 : Nat) (R : Own) (v : Vl) (va : Option Addr) (vc : Nat) (h : Int) (i : Nat) (wb : World) (e : Env) (ds : List Deferred) (L : Own) : Prop where
  hw : wb = w0
  hds : ds = []
  o : ∃ k, L = hashO bh k :: (b3, Obj.cells #[.bool v.nu, i64 v.num, str v.tx, .slice va v.ls.length vc] 29 (0, 0)) :: R ∧ hashL (v.ls.drop i) k = hashL v.ls h
  hi : i ≤ v.ls.length
  h0 : e 0 = .pointer (some ⟨bh, 0, none⟩)
  h44 : e 44 = .slice va v.ls.length vc
  h45 : e 45 = i64 v.ls.length
  h46 : e 46 = i64 i
theorem hash_all : ∀ (n : Nat) (wb w : World) (lo bh : Nat) (h : Int) (R : Own) (v : Vl) (va : Option Addr) (vc : Nat), SizeOf.sizeOf v ≤ n → lo ≤ wb.heap.size → VAt wb lo v va vc → (∀ h, ∀ p ∈ hashO bh h :: R, wb.heap.size ≤ p.1) → Sy wb (hashO bh h :: R) w →
    Calls Tryd.prog 30 #[.pointer (some ⟨bh, 0, none⟩), .agg (v.cells va vc).toArray] w (HashR wb bh (hashV v h) R) := by
  intro n
  induction n with
  | zero => intro wb w lo bh h R v va vc hn; cases v; simp at hn
  | succ n ih =>
  intro wb w lo bh h R v va vc hn hlo hV hR hw
  have hbnd : v.ls.length ≤ 9223372036854775807 := Nat.le_trans hV.hc hV.hc2
  have hbndt := hV.ht
  refine enterB (args := [.pointer (some ⟨bh, 0, none⟩), .agg (v.cells va vc).toArray]) Tryd.func30 rfl Tryd.ntmps30 (congrArg Array.toList Tryd.results30) (by kernel_rfl) (by simp) hw ?_
  simp (disch := omega) only [push_cast, Nat.reduceEqDiff, Vl.cells]
  refine newI (fun b3 hb3 hn3 => ?_)
  simp (disch := omega) only [push_cast, Nat.reduceEqDiff, Vl.cells]
  have hL : ∀ (x : Obj) (h : Int), ∀ p ∈ hashO bh h :: (b3, x) :: R, wb.heap.size ≤ p.1 := fun x h p hp => by
    simp only [List.mem_cons] at hp
    rcases hp with rfl | rfl | hp
    · exact hR h (hashO bh h) (.head _)
    · exact hb3
    · exact hR h p (.tail _ hp)
  have hL2 : ∀ (x : Obj) (h : Int), ∀ p ∈ (b3, x) :: hashO bh h :: R, wb.heap.size ≤ p.1 := fun x h p hp => by
    rcases List.mem_cons.1 hp with rfl | hp
    · exact hb3
    · exact hR h p hp
  refine ldOne Shp.eq mem0 rfl ?_
  simp (disch := omega) only [push_cast, Nat.reduceEqDiff]
  rw [V_cond]
  simp (disch := omega) only [push_cast, Nat.reduceEqDiff]
  refine condX_b (fun hnu => ?_) (fun hnu => ?_)
  all_goals
    simp (disch := omega) only [push_cast, Nat.reduceEqDiff]
    refine callV en_55 (callX_base (fun w' hw' => take_walk wb w' bh h _ ((b3, Obj.cells #[.bool v.nu, i64 v.num, str v.tx, .slice va v.ls.length vc] 29 (0, 0)) :: R) (hw'.perm (List.Perm.swap _ _ _)) (hL _ _)) ?_)
    rintro e' w' ⟨rfl, hs⟩
    refine ⟨_, _, rfl, hs, ?_⟩
    clear hs
    simp (disch := omega) only [push_cast, Nat.reduceEqDiff]
    refine ldOne Shp.eq mem1 rfl ?_
    simp (disch := omega) only [push_cast, Nat.reduceEqDiff]
    refine callV en_56 (callX_base (fun w' hw' => number_walk wb w' bh _ _ _ (num_of_u64 _).1 (num_of_u64 _).2 hw' (hL _ _)) ?_)
    rintro e' w' ⟨rfl, hs⟩
    refine ⟨_, _, rfl, hs, ?_⟩
    clear hs
    simp (disch := omega) only [push_cast, Nat.reduceEqDiff]
    refine ldOne Shp.eq mem1 rfl ?_
    simp (disch := omega) only [push_cast, Nat.reduceEqDiff]
    refine callV en_56 (callX_base (fun w' hw' => number_walk wb w' bh _ _ _ (num_of_u64 _).1 (num_of_u64 _).2 hw' (hL _ _)) ?_)
    rintro e' w' ⟨rfl, hs⟩
    refine ⟨_, _, rfl, hs, ?_⟩
    clear hs
    simp (disch := omega) only [push_cast, Nat.reduceEqDiff]
    refine ldOne Shp.eq mem1 rfl ?_
    simp (disch := omega) only [push_cast, Nat.reduceEqDiff]
    refine forget (fun e => e 0 = .pointer (some ⟨bh, 0, none⟩) ∧ e 3 = .pointer (some ⟨b3, 0, none⟩) ∧ e 26 = i64 v.tx.length ∧ e 27 = i64 0) ⟨rfl, rfl, rfl, rfl⟩ ?_
    rintro e ⟨h0, h3, h26, h27⟩
    rw [V_block]
    simp (disch := omega) only [push_cast, Nat.reduceEqDiff, h0, h3, h26, h27]
    refine loopW (G := Nat) (HbI wb bh b3 R v va vc _) (fun i => v.tx.length - i) 0 _ (fun w hw => hw) (by kernel_rfl) ⟨rfl, rfl, ⟨_, rfl, rfl⟩, by omega, h0, h3, h26, by simpa using h27⟩ ?_
    clear h0 h3 h26 h27 e
    rintro i wb e ds L ⟨rfl, rfl, ⟨k, rfl, hk⟩, hi, h0, h3, h26, h27⟩
    simp (disch := omega) only [push_cast, Nat.reduceEqDiff, h0, h3, h26, h27]
    rw [V_cond]
    simp (disch := omega) only [push_cast, Nat.reduceEqDiff, h0, h3, h26, h27]
    refine condX_d (fun hlt => ?_) (fun hge => ?_)
    · simp (disch := omega) only [push_cast, Nat.reduceEqDiff, h0, h3, h26, h27]
      rw [V_block]
      simp (disch := omega) only [push_cast, Nat.reduceEqDiff, h0, h3, h26, h27]
      refine ldOne Shp.eq mem1 rfl ?_
      simp (disch := omega) only [push_cast, Nat.reduceEqDiff, h0, h3, h26, h27]
      refine callV en_55 (callX_base (fun w' hw' => take_walk wb w' bh k _ _ hw' (hL _ _)) ?_)
      rintro e' w' ⟨rfl, hs⟩
      refine ⟨_, _, rfl, hs, ?_⟩
      clear hs
      simp (disch := omega) only [push_cast, Nat.reduceEqDiff, h0, h3, h26, h27]
      refine ⟨i + 1, _, fun w hw => hw, ⟨rfl, rfl, ⟨_, rfl, ?_⟩, by omega, h0, h3, h26, by simp only [upd]; rfl⟩, by omega⟩
      have hli : i < v.tx.length := by omega
      rw [← hk, List.drop_eq_getElem_cons hli, bytesP, show v.tx.getD i 0 = v.tx[i] by simp [List.getD, List.getElem?_eq_getElem hli]]
    obtain rfl : i = v.tx.length := by omega
    rw [List.drop_length, bytesP] at hk
    simp (disch := omega) only [push_cast, Nat.reduceEqDiff, h0, h3, h26, h27]
    refine ldOne Shp.eq mem1 rfl ?_
    simp (disch := omega) only [push_cast, Nat.reduceEqDiff, h0, h3, h26, h27]
    refine callV en_56 (callX_base (fun w' hw' => number_walk wb w' bh _ _ _ (num_of_u64 _).1 (num_of_u64 _).2 hw' (hL _ _)) ?_)
    rintro e' w' ⟨rfl, hs⟩
    refine ⟨_, _, rfl, hs, ?_⟩
    clear hs
    simp (disch := omega) only [push_cast, Nat.reduceEqDiff, h0, h3, h26, h27]
    refine ldOne Shp.eq mem1 rfl ?_
    simp (disch := omega) only [push_cast, Nat.reduceEqDiff, h0, h3, h26, h27]
    refine forget (fun e => e 0 = .pointer (some ⟨bh, 0, none⟩) ∧ e 44 = .slice va v.ls.length vc ∧ e 45 = i64 v.ls.length ∧ e 46 = i64 0) ⟨h0, rfl, rfl, rfl⟩ ?_
    clear h0 h3 h26 h27 e
    rintro e ⟨h0, h44, h45, h46⟩
    rw [V_block]
    simp (disch := omega) only [push_cast, Nat.reduceEqDiff, h0, h44, h45, h46]
    refine loopW (G := Nat) (HlI wb bh b3 R v va vc _) (fun i => v.ls.length - i) 0 _ (fun w hw => hw) (by kernel_rfl) ⟨rfl, rfl, ⟨_, rfl, rfl⟩, by omega, h0, h44, h45, by simpa using h46⟩ ?_
    clear h0 h44 h45 h46 e
    rintro i wb e ds L ⟨rfl, rfl, ⟨m, rfl, hm⟩, hi, h0, h44, h45, h46⟩
    simp (disch := omega) only [push_cast, Nat.reduceEqDiff, h0, h44, h45, h46]
    rw [V_cond]
    simp (disch := omega) only [push_cast, Nat.reduceEqDiff, h0, h44, h45, h46]
    refine condX_d (fun hlt => ?_) (fun hge => ?_)
    rotate_left
    · obtain rfl : i = v.ls.length := by omega
      rw [List.drop_length, hashL] at hm
      simp (disch := omega) only [push_cast, Nat.reduceEqDiff, h0, h44, h45, h46]
      refine fun w' hw' => ⟨rfl, ?_⟩
      have hv : hashV v h = m := by rw [hashV_eq, hnu, hm, hk]; rfl
      rw [hv]
      exact hw'.mid [hashO bh m] [_] (fun p hp => by rw [List.mem_singleton.1 hp]; exact hb3)
    have hlx : i < v.ls.length := by omega
    obtain ⟨p, hp⟩ : ∃ p, v.ls[i]? = some p := ⟨_, List.getElem?_eq_getElem hlx⟩
    have hsz := Vl.size_get hp
    obtain ⟨pb, poff, pa, pc, rfl, p1, p2, p3⟩ := hV.get hp
    simp (disch := omega) only [push_cast, Nat.reduceEqDiff, h0, h44, h45, h46]
    rw [V_block]
    simp (disch := omega) only [push_cast, Nat.reduceEqDiff, h0, h44, h45, h46]
    refine ldAggF Shp.eq p2 rfl (out_of (fun p hp => Nat.lt_of_lt_of_le (Nat.lt_of_lt_of_le p1 hlo) (hL _ _ p hp))) ?_
    simp (disch := omega) only [push_cast, Nat.reduceEqDiff, h0, h44, h45, h46, Vl.cells]
    refine newI (fun b7 hb7 hn7 => ?_)
    simp (disch := omega) only [push_cast, Nat.reduceEqDiff, h0, h44, h45, h46]
    refine storeX 0 rfl Siz.eq rfl rfl (by simp [Value.oneCell']) (by simp) ?_
    simp (disch := omega) only [push_cast, Nat.reduceEqDiff, h0, h44, h45, h46]
    refine loadX_agg Shp.eq mem0 rfl rfl ?_
    simp (disch := omega) only [push_cast, Nat.reduceEqDiff, h0, h44, h45, h46]
    have hL3 : ∀ (x y : Obj) (h : Int), ∀ p ∈ hashO bh h :: (b7, y) :: (b3, x) :: R, wb.heap.size ≤ p.1 := fun x y h p hp => by
      simp only [List.mem_cons] at hp
      rcases hp with rfl | rfl | rfl | hp
      · exact hR h (hashO bh h) (.head _)
      · exact hb7
      · exact hb3
      · exact hR h p (.tail _ hp)
    refine callV en_30 (callX_base (fun w' hw' => ih wb w' lo bh m _ p pa pc (by omega) hlo p3 (hL3 _ _) (hw'.perm (List.Perm.swap _ _ _))) ?_)
    rintro e' w' ⟨rfl, hs⟩
    refine ⟨_, _, rfl, hs, ?_⟩
    clear hs
    simp (disch := omega) only [push_cast, Nat.reduceEqDiff, h0, h44, h45, h46]
    refine ⟨i + 1, _, fun w hw => hw.mid [hashO bh (hashV p m)] [_] (fun p hp => by rw [List.mem_singleton.1 hp]; exact hb7), ⟨rfl, rfl, ⟨_, rfl, ?_⟩, by omega, h0, h44, h45, by simp only [upd]; rfl⟩, by omega⟩
    obtain ⟨h1, rfl⟩ := List.getElem?_eq_some_iff.1 hp
    rw [← hm, List.drop_eq_getElem_cons h1, hashL]
def hashP (v : Vl) : Int := hashV v 14695981039346656037
theorem hash_walk (w : World) (lo : Nat) (v : Vl) (va : Option Addr) (vc : Nat) (hlo : lo ≤ w.heap.size) (hV : VAt w lo v va vc) :
    Calls Tryd.prog 12 #[.agg (v.cells va vc).toArray] w (Rets w (Is (.int .u64 (hashP v)))) := by
  refine enterT (args := [.agg (v.cells va vc).toArray]) Tryd.func12 rfl Tryd.ntmps12 (congrArg Array.toList Tryd.results12) (by kernel_rfl) (by simp) (Sy.refl w) ?_
  simp (disch := omega) only [push_cast, Nat.reduceEqDiff, Vl.cells]
  refine newI (fun b1 hb1 hn1 => ?_)
  simp (disch := omega) only [push_cast, Nat.reduceEqDiff, Vl.cells]
  refine newI (fun b3 hb3 hn3 => ?_)
  simp (disch := omega) only [push_cast, Nat.reduceEqDiff, Vl.cells]
  refine storeX 0 rfl Siz.eq rfl rfl (by simp [Value.oneCell']) (by simp) ?_
  simp (disch := omega) only [push_cast, Nat.reduceEqDiff]
  refine loadX_agg Shp.eq mem1 rfl rfl ?_
  simp (disch := omega) only [push_cast, Nat.reduceEqDiff]
  have hL : ∀ (x : Obj) (h : Int), ∀ p ∈ hashO b3 h :: [(b1, x)], w.heap.size ≤ p.1 := fun x h p hp => by
    simp only [List.mem_cons, List.mem_nil_iff, or_false] at hp
    rcases hp with rfl | rfl
    · exact hb3
    · exact hb1
  refine callV en_30 (callX_base (fun w' hw' => hash_all _ w w' lo b3 _ [_] v va vc (Nat.le_refl _) hlo hV (hL _) hw') ?_)
  rintro e' w' ⟨rfl, hs⟩
  refine ⟨_, _, rfl, hs, ?_⟩
  clear hs
  simp (disch := omega) only [push_cast, Nat.reduceEqDiff]
  refine ldOne Shp.eq mem0 rfl ?_
  simp (disch := omega) only [push_cast, Nat.reduceEqDiff]
  exact finIs (hL _ _) rfl
end Go.Proofs.YtjkogfiidhjpcaaDoor
/- YtjkogfiidhjpcaaDoor: walks, part 144: Same of the reference. -/
namespace Go.Proofs.YtjkogfiidhjpcaaDoor
open Go Go.K
set_option maxRecDepth 100000
set_option linter.unusedVariables false
set_option linter.unusedSimpArgs false
set_option maxHeartbeats 40000000
structure SrI (w0 : World) (b2 b3 : Nat) (x y : Vl) (xa ya : Option Addr) (xc yc : Nat) (i : Nat) (wb : World) (e : Env) (ds : List Deferred) (L : Own) : Prop where
  hw : wb = w0
  hds : ds = []
  o : L = [(b3, Obj.cells #[.bool y.nu, i64 y.num, str y.tx, .slice ya y.ls.length yc] 29 (0, 0)), (b2, Obj.cells #[.bool x.nu, i64 x.num, str x.tx, .slice xa x.ls.length xc] 29 (0, 0))]
  hi : i ≤ x.ls.length
  hr : sameL (x.ls.drop i) (y.ls.drop i) = sameL x.ls y.ls
  h2 : e 2 = .pointer (some ⟨b2, 0, none⟩)
  h3 : e 3 = .pointer (some ⟨b3, 0, none⟩)
  h5 : e 5 = i64 i
theorem sameR_all : ∀ (n : Nat) (w : World) (lo : Nat) (x y : Vl) (xa ya : Option Addr) (xc yc : Nat), SizeOf.sizeOf x ≤ n → lo ≤ w.heap.size → VAt w lo x xa xc → VAt w lo y ya yc →
    Calls Tryd.prog 11 #[.agg (x.cells xa xc).toArray, .agg (y.cells ya yc).toArray] w (Rets w (Is (.bool (sameV x y)))) := by
  intro n
  induction n with
  | zero => intro w lo x y xa ya xc yc hn; cases x; simp at hn
  | succ n ih =>
  intro w lo x y xa ya xc yc hn hlo hX hY
  have hbnd : x.ls.length ≤ 9223372036854775807 := Nat.le_trans hX.hc hX.hc2
  have hbndy : y.ls.length ≤ 9223372036854775807 := Nat.le_trans hY.hc hY.hc2
  refine enterT (args := [.agg (x.cells xa xc).toArray, .agg (y.cells ya yc).toArray]) Tryd.func11 rfl Tryd.ntmps11 (congrArg Array.toList Tryd.results11) (by kernel_rfl) (by simp) (Sy.refl w) ?_
  simp (disch := omega) only [push_cast, Nat.reduceEqDiff, Vl.cells]
  refine newI (fun b2 hb2 hn2 => ?_)
  simp (disch := omega) only [push_cast, Nat.reduceEqDiff, Vl.cells]
  refine newI (fun b3 hb3 hn3 => ?_)
  simp (disch := omega) only [push_cast, Nat.reduceEqDiff, Vl.cells]
  have hL : ∀ x y : Obj, ∀ p ∈ [(b3, x), (b2, y)], w.heap.size ≤ p.1 := fun x y p hp => by
    simp only [List.mem_cons, List.mem_nil_iff, or_false] at hp
    rcases hp with rfl | rfl
    · exact hb3
    · exact hb2
  refine ldOne Shp.eq mem1 rfl ?_
  simp (disch := omega) only [push_cast, Nat.reduceEqDiff]
  refine ldOne Shp.eq mem0 rfl ?_
  simp (disch := omega) only [push_cast, Nat.reduceEqDiff]
  refine guardX_bf rfl (fun g1 => ?_) (fun g1 => ?_)
  rotate_left
  · simp (disch := omega) only [push_cast, Nat.reduceEqDiff]
    rw [V_cond]
    simp (disch := omega) only [push_cast, Nat.reduceEqDiff]
    exact finIs (hL _ _) (congrArg Value.bool (by rw [sameV_eq]; rcases hx : x.nu <;> rcases hy : y.nu <;> simp_all))
  simp (disch := omega) only [push_cast, Nat.reduceEqDiff]
  refine ldOne Shp.eq mem1 rfl ?_
  simp (disch := omega) only [push_cast, Nat.reduceEqDiff]
  refine ldOne Shp.eq mem0 rfl ?_
  simp (disch := omega) only [push_cast, Nat.reduceEqDiff]
  refine guardX_f rfl (fun g2 => ?_) (fun g2 => ?_)
  rotate_left
  · simp (disch := omega) only [push_cast, Nat.reduceEqDiff]
    rw [V_cond]
    simp (disch := omega) only [push_cast, Nat.reduceEqDiff]
    exact finIs (hL _ _) (congrArg Value.bool (by rw [sameV_eq]; simp [g2]))
  simp (disch := omega) only [push_cast, Nat.reduceEqDiff]
  refine ldOne Shp.eq mem1 rfl ?_
  simp (disch := omega) only [push_cast, Nat.reduceEqDiff]
  refine ldOne Shp.eq mem0 rfl ?_
  simp (disch := omega) only [push_cast, Nat.reduceEqDiff]
  refine guardX_f rfl (fun g3 => ?_) (fun g3 => ?_)
  rotate_left
  · simp (disch := omega) only [push_cast, Nat.reduceEqDiff]
    rw [V_cond]
    simp (disch := omega) only [push_cast, Nat.reduceEqDiff]
    exact finIs (hL _ _) (congrArg Value.bool (by rw [sameV_eq]; simp [g3]))
  simp (disch := omega) only [push_cast, Nat.reduceEqDiff]
  refine ldOne Shp.eq mem1 rfl ?_
  simp (disch := omega) only [push_cast, Nat.reduceEqDiff]
  refine ldOne Shp.eq mem0 rfl ?_
  simp (disch := omega) only [push_cast, Nat.reduceEqDiff]
  rw [V_cond]
  simp (disch := omega) only [push_cast, Nat.reduceEqDiff]
  refine condX_d (fun g4 => ?_) (fun g4 => ?_)
  · simp (disch := omega) only [push_cast, Nat.reduceEqDiff]
    exact finIs (hL _ _) (congrArg Value.bool (by rw [sameV_eq, sameL_len (by omega)]; simp))
  have hres : sameV x y = sameL x.ls y.ls := by
    rw [sameV_eq]
    have e1 : (x.nu == y.nu) = true := by rcases hx : x.nu <;> rcases hy : y.nu <;> simp_all
    rw [e1, decide_eq_true (Decidable.not_not.1 g2), decide_eq_true (Decidable.not_not.1 g3)]
    simp
  refine forget (fun e => e 2 = .pointer (some ⟨b2, 0, none⟩) ∧ e 3 = .pointer (some ⟨b3, 0, none⟩)) ⟨rfl, rfl⟩ ?_
  rintro e ⟨h2, h3⟩
  simp (disch := omega) only [push_cast, Nat.reduceEqDiff, h2, h3]
  rw [V_block]
  simp (disch := omega) only [push_cast, Nat.reduceEqDiff, h2, h3]
  refine loopW (G := Nat) (SrI w b2 b3 x y xa ya xc yc) (fun i => x.ls.length - i) 0 _ (fun w hw => hw) (by kernel_rfl) ⟨rfl, rfl, rfl, by omega, rfl, h2, h3, rfl⟩ ?_
  clear h2 h3 e
  rintro i wb e ds L ⟨rfl, rfl, rfl, hi, hr, h2, h3, h5⟩
  simp (disch := omega) only [push_cast, Nat.reduceEqDiff, h2, h3, h5]
  refine ldOne Shp.eq mem1 rfl ?_
  simp (disch := omega) only [push_cast, Nat.reduceEqDiff, h2, h3, h5]
  rw [V_cond]
  simp (disch := omega) only [push_cast, Nat.reduceEqDiff, h2, h3, h5]
  refine condX_d (fun hlt => ?_) (fun hge => ?_)
  rotate_left
  · obtain rfl : i = x.ls.length := by omega
    simp (disch := omega) only [push_cast, Nat.reduceEqDiff, h2, h3, h5]
    exact finIs (hL _ _) (congrArg Value.bool (by rw [hres, ← hr, List.drop_length, List.drop_of_length_le (by omega)]; rfl))
  obtain ⟨p, hp⟩ : ∃ p, x.ls[i]? = some p := ⟨_, List.getElem?_eq_getElem (by omega)⟩
  obtain ⟨q, hq⟩ : ∃ q, y.ls[i]? = some q := ⟨_, List.getElem?_eq_getElem (by omega)⟩
  have hsz := Vl.size_get hp
  obtain ⟨pb, poff, pa, pc, rfl, p1, p2, p3⟩ := hX.get hp
  obtain ⟨qb, qoff, qa, qc, rfl, r1, r2, r3⟩ := hY.get hq
  simp (disch := omega) only [push_cast, Nat.reduceEqDiff, h2, h3, h5]
  rw [V_block]
  simp (disch := omega) only [push_cast, Nat.reduceEqDiff, h2, h3, h5]
  refine drawQT (by kernel_rfl) (by kernel_rfl) mixed (by kernel_rfl) ?_
  simp (disch := omega) only [push_cast, Nat.reduceEqDiff, h2, h3, h5]
  refine ldOne Shp.eq mem1 rfl ?_
  simp (disch := omega) only [push_cast, Nat.reduceEqDiff, h2, h3, h5]
  refine ldAggF Shp.eq p2 rfl (out_of (fun p hp => Nat.lt_of_lt_of_le (Nat.lt_of_lt_of_le p1 hlo) (hL _ _ p hp))) ?_
  simp (disch := omega) only [push_cast, Nat.reduceEqDiff, h2, h3, h5, Vl.cells]
  refine ldOne Shp.eq mem0 rfl ?_
  simp (disch := omega) only [push_cast, Nat.reduceEqDiff, h2, h3, h5]
  refine ldAggF Shp.eq r2 rfl (out_of (fun p hp => Nat.lt_of_lt_of_le (Nat.lt_of_lt_of_le r1 hlo) (hL _ _ p hp))) ?_
  simp (disch := omega) only [push_cast, Nat.reduceEqDiff, h2, h3, h5, Vl.cells]
  refine qcallV en_11 (qcallX_is (.bool (sameV p q)) (fun w' hw' => ih w' lo p q pa qa pc qc (by omega) (Nat.le_trans hlo hw'.size) (p3.sy hlo hw' (hL _ _)) (r3.sy hlo hw' (hL _ _))) ?_)
  simp (disch := omega) only [push_cast, Nat.reduceEqDiff, h2, h3, h5]
  rw [V_cond]
  simp (disch := omega) only [push_cast, Nat.reduceEqDiff, h2, h3, h5]
  refine condX_b (fun hne => ?_) (fun hne => ?_)
  · simp (disch := omega) only [push_cast, Nat.reduceEqDiff, h2, h3, h5]
    exact finIs (hL _ _) (congrArg Value.bool (by rw [Bool.not_eq_true'] at hne; rw [hres, ← hr, sameL_step hp hq, hne]; rfl))
  · simp (disch := omega) only [push_cast, Nat.reduceEqDiff, h2, h3, h5]
    rw [Bool.not_eq_false'] at hne
    refine ⟨i + 1, _, fun w hw => hw, ⟨rfl, rfl, rfl, by omega, by rw [← hr, sameL_step hp hq, hne]; rfl, h2, h3, by simp only [upd]; rfl⟩, by omega⟩
end Go.Proofs.YtjkogfiidhjpcaaDoor
