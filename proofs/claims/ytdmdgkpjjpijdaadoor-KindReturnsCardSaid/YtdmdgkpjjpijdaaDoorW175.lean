/- YtdmdgkpjjpijdaaDoor: walks, part 172: the place to which a way leads. -/
import Derived.Test.YtdmdgkpjjpijdaaDoorW171
import Derived.Test.YtdmdgkpjjpijdaaDoorW159
namespace Go.Proofs.YtdmdgkpjjpijdaaDoor
open Go Go.K
set_option maxRecDepth 100000
set_option linter.unusedVariables false
set_option linter.unusedSimpArgs false
set_option maxHeartbeats 4000000
/-- A world holds these blocks. -/
def HasK (w : World) (K : Own) : Prop := ∀ p ∈ K, w.heap[p.1]? = some p.2
theorem HasK.of_sy {wb w : World} {K L : Own} (h : Sy wb L w) (hK : ∀ p ∈ K, p ∈ L) : HasK w K := fun p hp => h.own p.1 p.2 (hK p hp)
theorem HasK.sub {w : World} {K K' : Own} (h : HasK w K) (hK : ∀ p ∈ K', p ∈ K) : HasK w K' := fun p hp => h p (hK p hp)
/-- A way, as it can be read. -/
def NatsAt (w : World) (a : Option Addr) (p : List Nat) : Prop := p = [] ∨ ∃ b off, a = some ⟨b, off, none⟩ ∧ ∀ i n : Nat, p[i]? = some n → At w b (off + i) [i64 n]
structure FdI (w0 : World) (K : Own) (l0 : List Sp) (pa : Option Addr) (p : List Nat) (pc : Nat) (i : Nat) (wb : World) (e : Env) (ds : List Deferred) (L : Own) : Prop where
  hw : wb = w0
  hds : ds = []
  hL : L = []
  o : ∃ (l : List Sp) (K' : Own) (a : Option Addr) (c : Nat) (q : Nat), (∀ x ∈ K', x ∈ K) ∧ OwPS l K' a c ∧ e 0 = .slice a l.length c ∧ okW l (p.drop i) ∧ e 5 = i64 q ∧ foundP l0 p 0 = foundP l (p.drop i) q
  il : i ≤ p.length
  h8 : e 8 = .slice pa p.length pc
  h9 : e 9 = i64 p.length
  h10 : e 10 = i64 i
theorem found_walk (w : World) (K : Own) (hK : HasK w K) (l : List Sp) (a : Option Addr) (c : Nat) (hO : OwPS l K a c) (pa : Option Addr) (p : List Nat) (pc : Nat) (hp : NatsAt w pa p) (hpl : p.length ≤ 9223372036854775807) (hok : okW l p) :
    Calls Tryd.prog 26 #[.slice a l.length c, .slice pa p.length pc] w (Rets w (Is (i64 (foundP l p 0)))) := by
  refine enterB (args := [.slice a l.length c, .slice pa p.length pc]) Tryd.func26 rfl Tryd.ntmps26 (congrArg Array.toList Tryd.results26) (by kernel_rfl) (by simp) (Sy.refl w) ?_
  simp (disch := omega) only [push_cast, Nat.reduceEqDiff]
  rw [V_block]
  simp (disch := omega) only [push_cast, Nat.reduceEqDiff]
  refine loopW (G := Nat) (FdI w K l pa p pc) (fun i => p.length - i) 0 _ (fun w hw => hw) (by kernel_rfl) ⟨rfl, rfl, rfl, ⟨l, K, a, c, 0, fun x hx => hx, hO, rfl, by simpa using hok, rfl, by simp⟩, by omega, rfl, rfl, rfl⟩ ?_
  rintro i wb e ds L ⟨rfl, rfl, rfl, ⟨l', K', a', c', q, hK', hO', h0, hok', h5, hf⟩, hil, h8, h9, h10⟩
  simp (disch := omega) only [push_cast, Nat.reduceEqDiff, h0, h5, h8, h9, h10]
  rw [V_cond]
  simp (disch := omega) only [push_cast, Nat.reduceEqDiff, h0, h5, h8, h9, h10]
  refine condX_d (fun hlt => ?_) (fun hge => ?_)
  · have hlt' : i < p.length := by omega
    obtain ⟨k, hk⟩ : ∃ k, p[i]? = some k := ⟨_, List.getElem?_eq_getElem hlt'⟩
    have hd : p.drop i = k :: p.drop (i + 1) := by
      rw [List.drop_eq_getElem_cons hlt']
      rw [List.getElem?_eq_getElem hlt'] at hk
      cases hk
      rfl
    rw [hd] at hok' hf
    obtain ⟨s, hs, hok2⟩ := hok'
    have hf2 : foundP l p 0 = foundP s.kids (p.drop (i + 1)) s.at_ := by rw [hf, foundP, hs]
    have hkl : k < l'.length := (List.getElem?_eq_some_iff.1 hs).1
    rcases hp with h0p | ⟨pb, poff, rfl, hpa⟩
    · rw [h0p] at hlt'
      exact absurd hlt' (by simp)
    have hpk := hpa i k hk
    obtain ⟨rfl, rfl, rfl, rfl⟩ | ⟨b, cs, K2, rfl, rfl, hc1, hc2, hkk⟩ := (OwPS_iff _ _ _ _).1 hO'
    · simp at hs
    obtain ⟨K3, a3, c3, hK3, hO3, hv0, hv1⟩ := OwPK.get k hkk hs
    have hlen : (cs.take (l'.length * 2)).length = l'.length * 2 := hkk.len
    have hv0' : cs[k * 2]? = some (i64 s.at_) := by
      rw [List.getElem?_take_of_lt (by omega)] at hv0
      exact hv0
    have hv1' : cs[k * 2 + 1]? = some (.slice a3 s.kids.length c3) := by
      rw [List.getElem?_take_of_lt (by omega)] at hv1
      exact hv1
    have hb := hK _ (hK' _ (.head _))
    have at1 : ∀ (j : Nat) (v : Value), cs[j]? = some v → At wb b j [v] := fun j v hj => ⟨_, _, _, hb, by
      obtain ⟨g1, g2⟩ := List.getElem?_eq_some_iff.1 hj
      simp only [List.length_cons, List.length_nil]
      rw [List.drop_eq_getElem_cons (by simpa using g1)]
      simp [g2]⟩
    simp (disch := omega) only [push_cast, Nat.reduceEqDiff, h0, h5, h8, h9, h10]
    rw [V_block]
    simp (disch := omega) only [push_cast, Nat.reduceEqDiff, h0, h5, h8, h9, h10]
    refine ldF Shp.eq (by simpa using hpk) (by simp) ?_
    simp (disch := omega) only [push_cast, Nat.reduceEqDiff, h0, h5, h8, h9, h10, Int.toNat_natCast]
    refine ldF Shp.eq (by simpa [Nat.mul_comm] using at1 _ _ hv0') (by simp) ?_
    simp (disch := omega) only [push_cast, Nat.reduceEqDiff, h0, h5, h8, h9, h10, Int.toNat_natCast]
    refine ldF Shp.eq (by simpa [Nat.mul_comm] using at1 _ _ hv1') (by simp) ?_
    simp (disch := omega) only [push_cast, Nat.reduceEqDiff, h0, h5, h8, h9, h10, Int.toNat_natCast]
    refine ⟨i + 1, _, fun w hw => hw, ⟨rfl, rfl, rfl, ⟨s.kids, K3, a3, c3, s.at_, fun x hx => hK' _ (.tail _ (hK3 x hx)), hO3.toS, rfl, hok2, rfl, hf2⟩, by omega, h8, h9, rfl⟩, by omega⟩
  · obtain rfl : i = p.length := by omega
    rw [List.drop_length, foundP] at hf
    simp (disch := omega) only [push_cast, Nat.reduceEqDiff, h0, h5, h8, h9, h10]
    rw [hf]
    exact fun w' hw' => ⟨_, rfl, hw', rfl⟩
end Go.Proofs.YtdmdgkpjjpijdaaDoor
/- YtdmdgkpjjpijdaaDoor: walks, part 173: closures that take a panic back. -/
namespace Go.K
open Go
variable {P : Program} {wb : World} {L : Own}
/-- What a closure's end asks. -/
def endC (Q : World → Own → Prop) : Post
  | .ret, wb, e, ds, L | .normal, wb, e, ds, L => ds = [] ∧ Q wb L
  | _, _, _, _, _ => False
@[push_cast] theorem endC_ret {Q : World → Own → Prop} {e : Env} {ds : List Deferred} : endC Q .ret wb e ds L = (ds = [] ∧ Q wb L) := (rfl)
@[push_cast] theorem endC_normal {Q : World → Own → Prop} {e : Env} {ds : List Deferred} : endC Q .normal wb e ds L = (ds = [] ∧ Q wb L) := (rfl)
/-- A deferred closure that asks for the panic first. -/
theorem callsD_rec {f : FuncId} {fn : Func} {rest : Code} {id n : Nat} {ops : Array Oper} {o0 o1 : Oper} {t0 t1 : Nat} {args : List Value} {u u2 : FrameMode} {v : Value} {w : World} {R : Ending → FrameMode → World → Prop}
    (hf : P.funcs[f]? = some fn) (hb : fn.body = some (.seq (.region id ops false) rest)) (hn : fn.ntmps = n) (hrs : fn.results = #[]) (hops : ops = #[o0, o1])
    (hg0 : o0.guard = none) (hg1 : o1.guard = none) (hr0 : ∀ ev w, (execOp ev o0).run P w = .ok .recover w) (hr1 : ∀ ev w, (execOp ev o1).run P w = .ok (.value (ev (.tmp t0))) w)
    (hd0 : o0.dst = some t0) (hd1 : o1.dst = some t1) (ht0 : t0 < n) (ht1 : t1 < n) (hsz : args.length ≤ n) (hok : okCode n rest = true)
    (hu : (u = .returning ∧ v = .nilIface ∧ u2 = .returning) ∨ ∃ x older, v = x ∧ u = .panicking ({ v := v, recovered := false } :: older) ∧ u2 = .panicking ({ v := v, recovered := true } :: older))
    (hw : Sy wb L w)
    (h : VT ⟨P, n, none⟩ (tag rest) (tag (endC (fun wb L => ∀ w, Sy wb L w → R (.returned (.tuple #[])) u2 w))) wb (upd (upd (env0 args) t0 v) t1 v) [] L) : CallsD P f args.toArray u w R := by
  subst hn hops
  refine callsD_of_wpS hf hb fun c₀ cs hc => ?_
  apply wpS_seq
  apply wpS_region
  have hw0 : ∀ y, Region.wanted o0 y = true := fun y => by simp [Region.wanted, hg0]
  have hw1 : ∀ y, Region.wanted o1 y = true := fun y => by simp [Region.wanted, hg1]
  have r0 := rep0 (n := fn.ntmps) (args := args) hsz
  have r1 := r0.put (ds' := []) (some t0) (fun k hk => by cases hk; exact ht0) v
  have r2 := r1.put (ds' := []) (some t1) (fun k hk => by cases hk; exact ht1) v
  have hev : ∀ (a : Act) (e : Env), Rep fn.ntmps a (puto e (some t0) v) [] → a.eval (.tmp t0) = v := fun a e hr => by rw [hr.eval]; show (upd e t0 v) t0 = v; simp [upd]
  have main : ∀ a, Rep fn.ntmps a (upd (upd (env0 args) t0 v) t1 v) [] → rest.wpS P (bodyPostS P fn c₀ cs R) a ({ c₀ with mode := u2 } :: cs) w := fun a hr => by
    refine wpS_of_wp ((wpIn_wide (n := 0)).1 (wpIn_mono (V_sound (c := ⟨P, fn.ntmps, none⟩) rest _ wb _ [] L hok h a w hr hw) ?_))
    rintro x a' w' ⟨wb', e', ds', L', hr', hw', hq⟩
    cases x with
    | normal => exact ⟨hr'.defers.trans hq.1, u2, rfl, .tuple #[], by simp [results, hrs], hq.2 w' hw'⟩
    | ret => exact ⟨hr'.defers.trans hq.1, u2, rfl, .tuple #[], by simp [results, hrs], hq.2 w' hw'⟩
    | panic ch => exact hq.elim
    | exit id => exact hq.elim
    | goto l => exact hq.elim
    | outgrown => exact hq.elim
  have hrange : List.range (#[o0, o1] : Array Oper).size = [0, 1] := rfl
  rw [hrange]
  rcases hu with ⟨rfl, rfl, rfl⟩ | ⟨x, older, rfl, rfl, rfl⟩
  · have hc0 : ({ c₀ with mode := FrameMode.returning } : Frame) = c₀ := by cases c₀; simp_all
    rw [hc0] at main
    simp only [wpOpsS, hw0, hw1, if_true, hr0, hr1, recoverD, hc, Oper.upon, hd0, hd1, List.getElem?_toArray, List.getElem?_cons_zero, List.getElem?_cons_succ]
    simp only [Exit.thenS]
    refine main _ ?_
    rw [hev _ _ r1]
    exact r2
  · simp only [wpOpsS, hw0, hw1, if_true, hr0, hr1, recoverD, hc, Oper.upon, hd0, hd1, List.getElem?_toArray, List.getElem?_cons_zero, List.getElem?_cons_succ]
    simp only [Exit.thenS]
    refine main _ ?_
    rw [hev _ _ r1]
    exact r2
end Go.K
namespace Go.Proofs.YtdmdgkpjjpijdaaDoor
open Go Go.K
set_option maxRecDepth 100000
set_option linter.unusedVariables false
set_option linter.unusedSimpArgs false
set_option maxHeartbeats 4000000
theorem parseC_idle (wb w : World) (L : Own) (hw : Sy wb L w) (v1 v2 v3 : Value) :
    CallsD Tryd.prog 19 #[v1, v2, v3] .returning w fun e' u' w' => e' = .returned (.tuple #[]) ∧ u' = .returning ∧ Sy wb L w' := by
  refine callsD_rec (args := [v1, v2, v3]) Tryd.func19 rfl Tryd.ntmps19 Tryd.results19 rfl rfl rfl (fun ev w => rfl) (fun ev w => rfl) rfl rfl (by omega) (by omega) (by simp) (by kernel_rfl) (.inl ⟨rfl, rfl, rfl⟩) hw ?_
  simp (disch := omega) only [push_cast, Nat.reduceEqDiff]
  refine Eq.mpr (px (v := .bool false) (fun w => by rfl) _) ?_
  simp (disch := omega) only [push_cast, Nat.reduceEqDiff]
  rw [V_cond]
  simp (disch := omega) only [push_cast, Nat.reduceEqDiff]
  exact fun w hw => hw
abbrev oFa (b : Nat) (q : Nat) : Nat × Obj := (b, Obj.cells #[i64 q] 52 (0, 0))
abbrev oEr (b : Nat) (e : Int) : Nat × Obj := (b, Obj.cells #[i64 e] 27 (0, 0))
abbrev oIn (b : Nat) (q : Int) : Nat × Obj := (b, Obj.cells #[i64 q] 3 (0, 0))
abbrev oSc (b : Nat) (x y : Value) : Nat × Obj := (b, Obj.cells #[x, y] 26 (0, 0))
theorem parseC_back (wb w : World) (M : Own) (b1 b2 b3 : Nat) (x y : Value) (e q0 : Int) (q : Nat) (h1 : wb.heap.size ≤ b1) (h2 : wb.heap.size ≤ b2) (h3 : wb.heap.size ≤ b3) (hM : ∀ b ∈ M, wb.heap.size ≤ b.1) (hw : Sy wb (oSc b1 x y :: oEr b2 e :: oIn b3 q0 :: M) w) :
    CallsD Tryd.prog 19 #[.pointer (some ⟨b1, 0, none⟩), .pointer (some ⟨b2, 0, none⟩), .pointer (some ⟨b3, 0, none⟩)] (.panicking [faultE q]) w fun e' u' w' => e' = .returned (.tuple #[]) ∧ settle u' = .returning ∧ ∃ b4, wb.heap.size ≤ b4 ∧ Sy wb (oFa b4 q :: oSc b1 (.slice none 0 0) (.slice none 0 0) :: oEr b2 8 :: oIn b3 q :: M) w' := by
  refine callsD_rec (args := [.pointer (some ⟨b1, 0, none⟩), .pointer (some ⟨b2, 0, none⟩), .pointer (some ⟨b3, 0, none⟩)]) Tryd.func19 rfl Tryd.ntmps19 Tryd.results19 rfl rfl rfl (fun ev w => rfl) (fun ev w => rfl) rfl rfl (by omega) (by omega) (by simp) (by kernel_rfl) (.inr ⟨_, _, rfl, rfl, rfl⟩) hw ?_
  simp (disch := omega) only [push_cast, Nat.reduceEqDiff]
  refine Eq.mpr (px (v := .bool true) (fun w => by rfl) _) ?_
  simp (disch := omega) only [push_cast, Nat.reduceEqDiff]
  rw [V_cond]
  simp (disch := omega) only [push_cast, Nat.reduceEqDiff]
  refine Eq.mpr (px (v := .tuple #[.agg #[i64 q], .bool true]) (fun w => by rfl) _) ?_
  simp (disch := omega) only [push_cast, Nat.reduceEqDiff]
  refine newI (fun b4 hb4 hn4 => ?_)
  simp (disch := omega) only [push_cast, Nat.reduceEqDiff]
  refine storeX 0 rfl Siz.eq rfl rfl (by simp [Value.oneCell']) (by simp) ?_
  simp (disch := omega) only [push_cast, Nat.reduceEqDiff]
  rw [V_cond]
  simp (disch := omega) only [push_cast, Nat.reduceEqDiff]
  refine condX_b (fun h => by cases h) (fun _ => ?_)
  simp (disch := omega) only [push_cast, Nat.reduceEqDiff]
  have hst : ∀ (x y : Value) (e q0 : Int), Stab wb (oFa b4 q :: oSc b1 x y :: oEr b2 e :: oIn b3 q0 :: M) [oFa b4 q] := fun x y e q0 => Stab.of (.cons_cons _ (List.nil_sublist _)) (fun b hb => by
    simp only [List.mem_cons] at hb
    rcases hb with rfl | rfl | rfl | rfl | hb
    · exact hb4
    · exact h1
    · exact h2
    · exact h3
    · exact hM b hb)
  refine freeT [0, 1, 2] [3, 4, 5] [oFa b4 q] (by kernel_rfl) mixed (by kernel_rfl) (hst _ _ _ _) ?_
  simp (disch := omega) only [push_cast, Nat.reduceEqDiff]
  refine ldOne Shp.eq mem0 rfl ?_
  simp (disch := omega) only [push_cast, Nat.reduceEqDiff]
  refine storeX 1 rfl Siz.eq rfl rfl (by simp [Value.oneCell']) (by simp) ?_
  simp (disch := omega) only [push_cast, Nat.reduceEqDiff]
  refine ⟨hst _ _ _ _, storeX 2 rfl Siz.eq rfl rfl (by simp [Value.oneCell']) (by simp) ?_⟩
  simp (disch := omega) only [push_cast, Nat.reduceEqDiff]
  refine ⟨hst _ _ _ _, storeX 3 rfl Siz.eq rfl rfl (by simp [Value.oneCell']) (by simp) ?_⟩
  simp (disch := omega) only [push_cast, Nat.reduceEqDiff]
  exact ⟨hst _ _ _ _, fun w hw => ⟨rfl, b4, hb4, hw⟩⟩
theorem fieldC_idle (wb w : World) (L : Own) (hw : Sy wb L w) (v1 v2 v3 : Value) :
    CallsD Tryd.prog 34 #[v1, v2, v3] .returning w fun e' u' w' => e' = .returned (.tuple #[]) ∧ u' = .returning ∧ Sy wb L w' := by
  refine callsD_rec (args := [v1, v2, v3]) Tryd.func34 rfl Tryd.ntmps34 Tryd.results34 rfl rfl rfl (fun ev w => rfl) (fun ev w => rfl) rfl rfl (by omega) (by omega) (by simp) (by kernel_rfl) (.inl ⟨rfl, rfl, rfl⟩) hw ?_
  simp (disch := omega) only [push_cast, Nat.reduceEqDiff]
  refine Eq.mpr (px (v := .bool false) (fun w => by rfl) _) ?_
  simp (disch := omega) only [push_cast, Nat.reduceEqDiff]
  rw [V_cond]
  simp (disch := omega) only [push_cast, Nat.reduceEqDiff]
  exact fun w hw => hw
theorem fieldC_back (wb w : World) (M : Own) (b1 b2 b3 : Nat) (g : Fld) (a : Option Addr) (c : Nat) (e q0 : Int) (q : Nat) (h1 : wb.heap.size ≤ b1) (h2 : wb.heap.size ≤ b2) (h3 : wb.heap.size ≤ b3) (hM : ∀ b ∈ M, wb.heap.size ≤ b.1) (hw : Sy wb (oFi b1 g a c :: oEr b2 e :: oIn b3 q0 :: M) w) :
    CallsD Tryd.prog 34 #[.pointer (some ⟨b1, 0, none⟩), .pointer (some ⟨b2, 0, none⟩), .pointer (some ⟨b3, 0, none⟩)] (.panicking [faultE q]) w fun e' u' w' => e' = .returned (.tuple #[]) ∧ settle u' = .returning ∧ ∃ b4, wb.heap.size ≤ b4 ∧ Sy wb (oFa b4 q :: oFi b1 noF none 0 :: oEr b2 8 :: oIn b3 q :: M) w' := by
  refine callsD_rec (args := [.pointer (some ⟨b1, 0, none⟩), .pointer (some ⟨b2, 0, none⟩), .pointer (some ⟨b3, 0, none⟩)]) Tryd.func34 rfl Tryd.ntmps34 Tryd.results34 rfl rfl rfl (fun ev w => rfl) (fun ev w => rfl) rfl rfl (by omega) (by omega) (by simp) (by kernel_rfl) (.inr ⟨_, _, rfl, rfl, rfl⟩) hw ?_
  simp (disch := omega) only [push_cast, Nat.reduceEqDiff]
  refine Eq.mpr (px (v := .bool true) (fun w => by rfl) _) ?_
  simp (disch := omega) only [push_cast, Nat.reduceEqDiff]
  rw [V_cond]
  simp (disch := omega) only [push_cast, Nat.reduceEqDiff]
  refine Eq.mpr (px (v := .tuple #[.agg #[i64 q], .bool true]) (fun w => by rfl) _) ?_
  simp (disch := omega) only [push_cast, Nat.reduceEqDiff]
  refine newI (fun b4 hb4 hn4 => ?_)
  simp (disch := omega) only [push_cast, Nat.reduceEqDiff]
  refine storeX 0 rfl Siz.eq rfl rfl (by simp [Value.oneCell']) (by simp) ?_
  simp (disch := omega) only [push_cast, Nat.reduceEqDiff]
  rw [V_cond]
  simp (disch := omega) only [push_cast, Nat.reduceEqDiff]
  refine condX_b (fun h => by cases h) (fun _ => ?_)
  simp (disch := omega) only [push_cast, Nat.reduceEqDiff]
  have hst : ∀ (o : Obj) (e q0 : Int), Stab wb (oFa b4 q :: (b1, o) :: oEr b2 e :: oIn b3 q0 :: M) [oFa b4 q] := fun o e q0 => Stab.of (.cons_cons _ (List.nil_sublist _)) (fun b hb => by
    simp only [List.mem_cons] at hb
    rcases hb with rfl | rfl | rfl | rfl | hb
    · exact hb4
    · exact h1
    · exact h2
    · exact h3
    · exact hM b hb)
  refine freeT [0, 1, 2] [3, 4, 5] [oFa b4 q] (by kernel_rfl) mixed (by kernel_rfl) (hst _ _ _) ?_
  simp (disch := omega) only [push_cast, Nat.reduceEqDiff]
  refine ldOne Shp.eq mem0 rfl ?_
  simp (disch := omega) only [push_cast, Nat.reduceEqDiff]
  refine storeX 1 rfl Siz.eq rfl rfl (by simp [Value.oneCell']) (by simp) ?_
  simp (disch := omega) only [push_cast, Nat.reduceEqDiff]
  refine ⟨hst _ _ _, storeX 2 rfl Siz.eq rfl rfl (by simp [Value.oneCell']) (by simp) ?_⟩
  simp (disch := omega) only [push_cast, Nat.reduceEqDiff]
  refine ⟨hst _ _ _, storeX 3 rfl Siz.eq rfl rfl (by simp [Value.oneCell']) (by simp) ?_⟩
  simp (disch := omega) only [push_cast, Nat.reduceEqDiff]
  exact ⟨hst _ _ _, fun w hw => ⟨rfl, b4, hb4, hw⟩⟩
end Go.Proofs.YtdmdgkpjjpijdaaDoor
/- YtdmdgkpjjpijdaaDoor: walks, part 174: a text as a field. -/
namespace Go.Proofs.YtdmdgkpjjpijdaaDoor
open Go Go.K
set_option maxRecDepth 100000
set_option linter.unusedVariables false
set_option linter.unusedSimpArgs false
set_option maxHeartbeats 4000000
theorem infoErrno : (Tryd.prog.info? 27).map (fun i => (i.zero, i.size, i.bytes)) = some (some (i64 0), 1, 8) := by kernel_rfl
/-- What ParseField tells. -/
def PfV (r : PF) (v : Value) (M : Own) : Prop := ∃ (a : Option Addr) (c : Nat) (K : Own), v = .tuple #[.agg (r.f.cells a c).toArray, i64 r.e, i64 r.at_] ∧ OwF r.f K a c ∧ ∀ b ∈ K, b ∈ M
theorem pEnd_no {α β : Type} {s : List UInt8} {x : α} {y : β} {q r : Nat} (h : pEnd s x q = .no r) : pEnd s y q = .no r := by
  unfold pEnd at h ⊢
  split at h
  · rename_i h1; rw [if_pos h1]; cases h; rfl
  · cases h
theorem pEnd_ok {α β : Type} {s : List UInt8} {x x' : α} {y : β} {q r : Nat} (h : pEnd s x q = .ok x' r) : pEnd s y q = .ok y r := by
  unfold pEnd at h ⊢
  split at h
  · cases h
  · rename_i h1; rw [if_neg h1]; cases h; rfl
theorem own_noF : OwF noF [] none 0 := OwS.toF (f := noF) ((OwS_iff _ _ _ _).2 (.inl ⟨rfl, rfl, rfl, rfl⟩)) (by simp [noF, Fld.nm])
theorem parseField_walk (w : World) (hs : SaysAt w) (hl : LibAt w) (t : List UInt8) (ht : t.length ≤ 9223372036854775807) (h0 : (parseF t).e = 0) :
    Calls Tryd.prog 12 #[str t] w (RetsN w (PfV (parseF t))) := by
  refine enterD (args := [str t]) Tryd.func12 rfl Tryd.ntmps12 (congrArg Array.toList Tryd.results12) (by kernel_rfl) (by simp) (Sy.refl w) ?_
  simp (disch := omega) only [push_cast, Nat.reduceEqDiff]
  refine newI (fun b2 hb2 hn2 => ?_)
  simp (disch := omega) only [push_cast, Nat.reduceEqDiff]
  refine newI (fun b3 hb3 hn3 => ?_)
  simp (disch := omega) only [push_cast, Nat.reduceEqDiff]
  refine newI (fun b4 hb4 hn4 => ?_)
  simp (disch := omega) only [push_cast, Nat.reduceEqDiff]
  rw [V_cond]
  simp (disch := omega) only [push_cast, Nat.reduceEqDiff]
  refine condX_d (fun hbig => ?_) (fun hsm => ?_)
  · simp (disch := omega) only [push_cast, Nat.reduceEqDiff]
    refine storeX 2 rfl Siz.eq rfl rfl (by simp [Value.oneCell']) (by simp) ?_
    simp (disch := omega) only [push_cast, Nat.reduceEqDiff]
    refine storeX 1 rfl Siz.eq rfl rfl (by simp [Value.oneCell']) (by simp) ?_
    simp (disch := omega) only [push_cast, Nat.reduceEqDiff]
    refine storeX 0 rfl Siz.eq rfl rfl (by simp [Value.oneCell']) (by simp) ?_
    simp (disch := omega) only [push_cast, Nat.reduceEqDiff]
    refine .inl (loadX_agg Shp.eq mem2 rfl rfl ?_)
    simp (disch := omega) only [push_cast, Nat.reduceEqDiff]
    refine ldOne Shp.eq mem1 rfl ?_
    simp (disch := omega) only [push_cast, Nat.reduceEqDiff]
    refine ldOne Shp.eq mem0 rfl ?_
    simp (disch := omega) only [push_cast, Nat.reduceEqDiff]
    have hr : parseF t = ⟨noF, 4, 65536⟩ := by unfold parseF; rw [if_pos (by omega)]
    rw [hr]
    refine fun w' hw' => ⟨_, [], rfl, hw'.end (fun b hb => by
      simp only [List.mem_cons, List.mem_nil_iff, or_false] at hb
      rcases hb with rfl | rfl | rfl <;> assumption), by simp, none, 0, [], rfl, ?_, by simp⟩
    exact own_noF
  simp (disch := omega) only [push_cast, Nat.reduceEqDiff]
  refine ⟨rfl, _, fun w => rfl, ?_⟩
  simp (disch := omega) only [push_cast, Nat.reduceEqDiff]
  refine newI (fun b5 hb5 hn5 => ?_)
  simp (disch := omega) only [push_cast, Nat.reduceEqDiff]
  have hM3 : ∀ b ∈ [oIn b4 0, oEr b3 0, oFi b2 noF none 0], w.heap.size ≤ b.1 := fun b hb => by
    simp only [List.mem_cons, List.mem_nil_iff, or_false] at hb
    rcases hb with rfl | rfl | rfl <;> assumption
  have ht2 : t.length ≤ 65536 := by omega
  refine callV en_35 (callX_pr (fun w' hw' => fields_ok (t.length + 1) w w' b5 t 0 [oIn b4 0, oEr b3 0, oFi b2 noF none 0] ⟨ht2, hs, hl, Nat.zero_le _, hb5, hM3, hw'⟩ (by omega)) (fun x q v p' K hr hq hp' hS hK => ?_) (fun q8 K hr hK => ?_))
  rotate_left
  · simp (disch := omega) only [push_cast, Nat.reduceEqDiff]
    have hr8 : parseF t = ⟨noF, 8, q8⟩ := by unfold parseF; rw [if_neg (by omega), pOne, hr, PR.and_no]
    have hM8 := hK
    refine .inr ⟨_, _, rfl, en_34, fun w' hw' => (fieldC_back w w' (K) b2 b3 b4 noF none 0 0 0 q8 hb2 hb3 hb4 hM8 (hw'.perm (permC fun f => by simp only [wt_append, wt_cons, wt_nil]; omega))).mono ?_⟩
    rintro e1 u1 w1 ⟨rfl, hu, b9, hb9, hw1⟩
    refine ⟨rfl, hu, _, hw1, ?_⟩
    try simp (disch := omega) only [push_cast, Nat.reduceEqDiff]
    refine loadX_agg Shp.eq mem1 rfl rfl ?_
    simp (disch := omega) only [push_cast, Nat.reduceEqDiff]
    refine ldOne Shp.eq mem2 rfl ?_
    simp (disch := omega) only [push_cast, Nat.reduceEqDiff]
    refine ldOne Shp.eq mem3 rfl ?_
    simp (disch := omega) only [push_cast, Nat.reduceEqDiff]
    rw [hr8]
    exact fun w2 hw2 => ⟨_, [], rfl, hw2.end (fun b hb => by
      simp only [List.mem_cons] at hb
      rcases hb with rfl | rfl | rfl | rfl | hb
      · exact hb9
      · exact hb2
      · exact hb3
      · exact hb4
      · exact hM8 b (by simpa using hb)), by simp, none, 0, [], rfl, own_noF, by simp⟩
  simp (disch := omega) only [push_cast, Nat.reduceEqDiff]
  (refine Exists.elim (hS) (fun a hz => Exists.elim hz (fun c hz => Exists.elim hz (fun a2 hz => Exists.elim hz (fun c2 hz => Exists.elim hz (fun K1 hz => Exists.elim hz (fun K2 hz => ?_)))))); have ez := hz.1; subst ez; have ez := hz.2.1; subst ez; have hO1 := hz.2.2.1; have hO2 := hz.2.2.2; clear hz)
  simp (disch := omega) only [push_cast, Nat.reduceEqDiff, Fld.cells]
  refine newI (fun b6 hb6 hn6 => ?_)
  simp (disch := omega) only [push_cast, Nat.reduceEqDiff, Fld.cells]
  refine storeX_weak (L' := oFi b2 noF none 0 :: oSp b6 0 none 0 0 :: oRd b5 t p' :: oIn b4 0 :: oEr b3 0 :: (K1 ++ K2)) (fun w hw => hw.perm (?_ : List.Perm (oSp b6 0 none 0 0 :: oRd b5 t p' :: ((K1 ++ K2) ++ [oIn b4 0, oEr b3 0, oFi b2 noF none 0])) _)) (storeX 0 rfl Siz.eq rfl rfl (by simp [Value.oneCell']) (by simp) ?_)
  · exact permC fun f => by simp only [wt_append, wt_cons, wt_nil]; omega
  simp (disch := omega) only [push_cast, Nat.reduceEqDiff, Fld.cells]
  refine storeX 1 rfl Siz.eq rfl rfl (by simp [Value.oneCell']) (by simp) ?_
  simp (disch := omega) only [push_cast, Nat.reduceEqDiff, Fld.cells]
  have hM6 : ∀ b ∈ oFi b2 x.1 a c :: oSp b6 x.2.at_ a2 x.2.kids.length c2 :: oIn b4 0 :: oEr b3 0 :: (K1 ++ K2), w.heap.size ≤ b.1 := fun b hb => by
    simp only [List.mem_cons] at hb
    rcases hb with rfl | rfl | rfl | rfl | hb
    · exact hb2
    · exact hb6
    · exact hb4
    · exact hb3
    · exact hK b hb
  refine callV en_25 (callX_pr (M := oFi b2 x.1 a c :: oSp b6 x.2.at_ a2 x.2.kids.length c2 :: oIn b4 0 :: oEr b3 0 :: (K1 ++ K2)) (fun w' hw' => end_walk w w' b5 t p' _ ht2 hp' hb5 (Sy.perm (L := oFi b2 x.1 a c :: oSp b6 x.2.at_ a2 x.2.kids.length c2 :: oRd b5 t p' :: oIn b4 0 :: oEr b3 0 :: (K1 ++ K2)) hw' (permC fun f => by simp only [wt_append, wt_cons, wt_nil]; omega))) (fun _ q' v p2 K hr2 hq2 hp2 hS2 hK2 => ?_) (fun q8 K hr2 hK2 => ?_))
  rotate_left
  · simp (disch := omega) only [push_cast, Nat.reduceEqDiff, Fld.cells]
    have hr8 : parseF t = ⟨noF, 8, q8⟩ := by
      unfold parseF
      rw [if_neg (by omega), pOne, hr, PR.and_ok, ← hq, pEnd_no hr2]
    have hM8 : ∀ b ∈ oSp b6 x.2.at_ a2 x.2.kids.length c2 :: ((K1 ++ K2) ++ K), w.heap.size ≤ b.1 := fun b hb => by
      simp only [List.mem_cons, List.mem_append] at hb hK
      rcases hb with rfl | hb | hb
      · exact hb6
      · exact hK b hb
      · exact hK2 b hb
    refine .inr ⟨_, _, rfl, en_34, fun w' hw' => (fieldC_back w w' (oSp b6 x.2.at_ a2 x.2.kids.length c2 :: ((K1 ++ K2) ++ K)) b2 b3 b4 x.1 a c 0 0 q8 hb2 hb3 hb4 hM8 (hw'.perm (permC fun f => by simp only [wt_append, wt_cons, wt_nil]; omega))).mono ?_⟩
    rintro e1 u1 w1 ⟨rfl, hu, b9, hb9, hw1⟩
    refine ⟨rfl, hu, _, hw1, ?_⟩
    try simp (disch := omega) only [push_cast, Nat.reduceEqDiff]
    refine loadX_agg Shp.eq mem1 rfl rfl ?_
    simp (disch := omega) only [push_cast, Nat.reduceEqDiff]
    refine ldOne Shp.eq mem2 rfl ?_
    simp (disch := omega) only [push_cast, Nat.reduceEqDiff]
    refine ldOne Shp.eq mem3 rfl ?_
    simp (disch := omega) only [push_cast, Nat.reduceEqDiff]
    rw [hr8]
    exact fun w2 hw2 => ⟨_, [], rfl, hw2.end (fun b hb => by
      simp only [List.mem_cons] at hb
      rcases hb with rfl | rfl | rfl | rfl | hb
      · exact hb9
      · exact hb2
      · exact hb3
      · exact hb4
      · exact hM8 b (by simpa using hb)), by simp, none, 0, [], rfl, own_noF, by simp⟩
  obtain ⟨rfl, rfl⟩ := hS2
  simp (disch := omega) only [push_cast, Nat.reduceEqDiff]
  have hM7 : ∀ (K : Own), (∀ b ∈ K, w.heap.size ≤ b.1) → ∀ b ∈ K ++ (oRd b5 t p2 :: oFi b2 x.1 a c :: oSp b6 x.2.at_ a2 x.2.kids.length c2 :: oIn b4 0 :: oEr b3 0 :: (K1 ++ K2)), w.heap.size ≤ b.1 := fun K h b hb => by
    rcases List.mem_append.1 hb with hb | hb
    · exact h b hb
    rcases List.mem_cons.1 hb with rfl | hb
    · exact hb5
    · exact hM6 b hb
  refine loadX_agg Shp.eq mem1 rfl rfl ?_
  simp (disch := omega) only [push_cast, Nat.reduceEqDiff]
  refine callV en_14 (callX_new (fun w' hw' => checkField_walk w' (hs.mono hw' (hM7 [] (by simp))) w'.heap.size (Nat.le_refl _) x.1 a c (hO1.rd hw' (fun b hb => by simp [hb])) hO1.le.1 hO1.le.2 hO1.nm_le) (fun v M8 hM8 hn8 hS8 => ?_))
  refine Exists.elim hS8 (fun pa h8 => Exists.elim h8 (fun pc h8 => ?_))
  have hv8 := h8.1
  subst hv8
  simp (disch := omega) only [push_cast, Nat.reduceEqDiff]
  refine newI (fun b7 hb7 hn7 => ?_)
  simp (disch := omega) only [push_cast, Nat.reduceEqDiff]
  refine storeX 0 rfl Siz.eq rfl rfl (by simp [Value.oneCell']) (by simp) ?_
  simp (disch := omega) only [push_cast, Nat.reduceEqDiff]
  refine ldOne Shp.eq mem0 rfl ?_
  simp (disch := omega) only [push_cast, Nat.reduceEqDiff]
  rw [V_cond]
  simp (disch := omega) only [push_cast, Nat.reduceEqDiff]
  refine condX_d (fun hne => ?_) (fun heq => ?_)
  · exfalso
    refine hne ?_
    have h1 := h0
    unfold parseF at h1
    rw [if_neg (by omega), pOne, hr, PR.and_ok, ← hq, pEnd_ok hr2] at h1
    simp only at h1
    split at h1
    · assumption
    · exact h1
  simp (disch := omega) only [push_cast, Nat.reduceEqDiff]
  refine loadX_agg Shp.eq (.tail _ (List.mem_append_right _ mem1)) rfl rfl ?_
  simp (disch := omega) only [push_cast, Nat.reduceEqDiff]
  refine storeX_weak (L' := oFi b2 x.1 a c :: oEr b3 0 :: oIn b4 0 :: (b7, Obj.cells #[i64 (checkP [x.1] []).1, .slice pa (checkP [x.1] []).2.1.tail.length pc, i64 (checkP [x.1] []).2.2] 32 (0, 0)) :: oRd b5 t p2 :: oSp b6 x.2.at_ a2 x.2.kids.length c2 :: ((K1 ++ K2) ++ M8)) (fun w hw => hw.perm (?_ : List.Perm ((b7, Obj.cells #[i64 (checkP [x.1] []).1, .slice pa (checkP [x.1] []).2.1.tail.length pc, i64 (checkP [x.1] []).2.2] 32 (0, 0)) :: (M8 ++ (oRd b5 t p2 :: oFi b2 x.1 a c :: oSp b6 x.2.at_ a2 x.2.kids.length c2 :: oIn b4 0 :: oEr b3 0 :: (K1 ++ K2)))) _)) (storeX 0 rfl Siz.eq rfl rfl (by simp [Value.oneCell']) (by simp) ?_)
  · exact permC fun f => by simp only [wt_append, wt_cons, wt_nil]; omega
  simp (disch := omega) only [push_cast, Nat.reduceEqDiff]
  refine storeX 1 rfl Siz.eq rfl rfl (by simp [Value.oneCell']) (by simp) ?_
  simp (disch := omega) only [push_cast, Nat.reduceEqDiff]
  refine storeX 2 rfl Siz.eq rfl rfl (by simp [Value.oneCell']) (by simp) ?_
  simp (disch := omega) only [push_cast, Nat.reduceEqDiff]
  have hr0 : parseF t = ⟨x.1, 0, 0⟩ := by
    have hc : (checkP [x.1] []).1 = 0 := by omega
    unfold parseF
    rw [if_neg (by omega), pOne, hr, PR.and_ok, ← hq, pEnd_ok hr2]
    simp only
    rw [if_pos hc]
  refine .inr ⟨_, _, rfl, en_34, fun w' hw' => (fieldC_idle w w' _ hw' _ _ _).mono ?_⟩
  rintro e1 u1 w1 ⟨rfl, rfl, hw1⟩
  refine ⟨rfl, rfl, _, hw1, ?_⟩
  try simp (disch := omega) only [push_cast, Nat.reduceEqDiff]
  refine loadX_agg Shp.eq mem0 rfl rfl ?_
  simp (disch := omega) only [push_cast, Nat.reduceEqDiff]
  refine ldOne Shp.eq mem1 rfl ?_
  simp (disch := omega) only [push_cast, Nat.reduceEqDiff]
  refine ldOne Shp.eq mem2 rfl ?_
  simp (disch := omega) only [push_cast, Nat.reduceEqDiff]
  rw [hr0]
  exact fun w2 hw2 => ⟨_, _, rfl, hw2, fun b hb => by
    simp only [List.mem_cons, List.mem_append] at hb hK
    rcases hb with rfl | rfl | rfl | rfl | rfl | rfl | hb | hb
    · exact hb2
    · exact hb3
    · exact hb4
    · exact hb7
    · exact hb5
    · exact hb6
    · exact hK b hb
    · exact hM8 b hb, a, c, K1, rfl, hO1, fun b hb => by simp [hb]⟩
end Go.Proofs.YtdmdgkpjjpijdaaDoor
/- YtdmdgkpjjpijdaaDoor: walks, part 175: a reader that stands behind blanks: asking leaves all as it is. -/
namespace Go.Proofs.YtdmdgkpjjpijdaaDoor
open Go Go.K
set_option maxRecDepth 100000
set_option linter.unusedVariables false
set_option linter.unusedSimpArgs false
set_option maxHeartbeats 4000000
structure BqI (w0 : World) (rb : Nat) (wb : World) (e : Env) (ds : List Deferred) (L : Own) : Prop where
  hw : wb = w0
  hds : ds = []
  h0 : e 0 = .pointer (some ⟨rb, 0, none⟩)
  o : L = []
theorem blanks_quiet (w : World) (rb : Nat) (s : List UInt8) (p : Nat) (hs : s.length ≤ 65536) (hp : p ≤ s.length) (hq : blP s p = p) (hat : At w rb 0 [str s, i64 p]) :
    Calls Tryd.prog 20 #[.pointer (some ⟨rb, 0, none⟩)] w (Rets w (Is (.tuple #[]))) := by
  have h1 : At w rb 0 [str s] := hat.sub 0 _ rfl
  have h2 : At w rb 1 [i64 p] := hat.sub 1 _ rfl
  refine enterB (args := [.pointer (some ⟨rb, 0, none⟩)]) Tryd.func20 rfl Tryd.ntmps20 (congrArg Array.toList Tryd.results20) (by kernel_rfl) (by simp) (Sy.refl w) ?_
  simp (disch := omega) only [push_cast, Nat.reduceEqDiff]
  rw [V_block]
  simp (disch := omega) only [push_cast, Nat.reduceEqDiff]
  refine loopW (G := Nat) (fun _ => BqI w rb) (fun i => i) 0 _ (fun w hw => hw) (by kernel_rfl) ⟨rfl, rfl, rfl, rfl⟩ ?_
  rintro i wb e ds L ⟨rfl, rfl, h0, rfl⟩
  simp (disch := omega) only [push_cast, Nat.reduceEqDiff, h0]
  refine drawQT (by kernel_rfl) (by kernel_rfl) mixed (by kernel_rfl) ?_
  simp (disch := omega) only [push_cast, Nat.reduceEqDiff, h0]
  refine ldF Shp.eq h2 (by simp) ?_
  simp (disch := omega) only [push_cast, Nat.reduceEqDiff, h0]
  refine ldF Shp.eq h1 (by simp) ?_
  simp (disch := omega) only [push_cast, Nat.reduceEqDiff, h0]
  refine guardX_t rfl (fun hlt => ?_) (fun hge => ?_)
  · simp (disch := omega) only [push_cast, Nat.reduceEqDiff, h0]
    refine ldF Shp.eq h1 (by simp) ?_
    simp (disch := omega) only [push_cast, Nat.reduceEqDiff, h0]
    refine ldF Shp.eq h2 (by simp) ?_
    simp (disch := omega) only [push_cast, Nat.reduceEqDiff, h0]
    refine qcallV en_38 (qcallX_is _ (fun w' hw' => indexByte_walk w' [32, 9, 10] (s.getD p 0)) ?_)
    simp (disch := omega) only [push_cast, Nat.reduceEqDiff, h0]
    rw [V_cond]
    simp (disch := omega) only [push_cast, Nat.reduceEqDiff, h0]
    have hat := getD_at (s := s) (i := p) (by omega)
    refine condX_d (fun hb => ?_) (fun hb => ?_)
    · have hb2 := (blank_index _).1 hb
      have := runP_step hat hb2
      have h3 : p + 1 ≤ blP s (p + 1) := runP_ge _ _ _
      unfold blP at hq h3
      omega
    · simp (disch := omega) only [push_cast, Nat.reduceEqDiff, h0]
      exact fun w' hw' => ⟨_, rfl, hw', rfl⟩
  · simp (disch := omega) only [push_cast, Nat.reduceEqDiff, h0]
    rw [V_cond]
    simp (disch := omega) only [push_cast, Nat.reduceEqDiff, h0]
    exact fun w' hw' => ⟨_, rfl, hw', rfl⟩
theorem is_quiet (w : World) (rb : Nat) (s : List UInt8) (p : Nat) (c : UInt8) (ci : Int) (hc : ci = c.toNat) (hs : s.length ≤ 65536) (hp : p ≤ s.length) (hq : blP s p = p) (hat : At w rb 0 [str s, i64 p]) :
    Calls Tryd.prog 21 #[.pointer (some ⟨rb, 0, none⟩), .int .u8 ci] w (Rets w (Is (.bool (decide (s[p]? = some c))))) := by
  subst hc
  have h1 : At w rb 0 [str s] := hat.sub 0 _ rfl
  have h2 : At w rb 1 [i64 p] := hat.sub 1 _ rfl
  refine enterB (args := [.pointer (some ⟨rb, 0, none⟩), .int .u8 (c.toNat : Int)]) Tryd.func21 rfl Tryd.ntmps21 (congrArg Array.toList Tryd.results21) (by kernel_rfl) (by simp) (Sy.refl w) ?_
  simp (disch := omega) only [push_cast, Nat.reduceEqDiff]
  refine callV en_20 (callX_is (fun w' hw' => blanks_quiet w' rb s p hs hp hq (hat.of_block (hw'.rest _ hat.lt (by simp)))) ?_)
  simp (disch := omega) only [push_cast, Nat.reduceEqDiff]
  refine drawQT (by kernel_rfl) (by kernel_rfl) mixed (by kernel_rfl) ?_
  simp (disch := omega) only [push_cast, Nat.reduceEqDiff]
  refine ldF Shp.eq h2 (by simp) ?_
  simp (disch := omega) only [push_cast, Nat.reduceEqDiff]
  refine ldF Shp.eq h1 (by simp) ?_
  simp (disch := omega) only [push_cast, Nat.reduceEqDiff]
  refine guardX_t rfl (fun hlt => ?_) (fun hge => ?_)
  · simp (disch := omega) only [push_cast, Nat.reduceEqDiff]
    refine ldF Shp.eq h1 (by simp) ?_
    simp (disch := omega) only [push_cast, Nat.reduceEqDiff]
    refine ldF Shp.eq h2 (by simp) ?_
    simp (disch := omega) only [push_cast, Nat.reduceEqDiff]
    have hg := get_iff (s := s) (q := p) (c := c) (by omega)
    refine fun w' hw' => ⟨_, rfl, hw', ?_⟩
    simp only [hg]
  · simp (disch := omega) only [push_cast, Nat.reduceEqDiff]
    refine fun w' hw' => ⟨_, rfl, hw', ?_⟩
    have hn := get_none (s := s) (q := p) (c := c) (by omega)
    simp [hn]
end Go.Proofs.YtdmdgkpjjpijdaaDoor
