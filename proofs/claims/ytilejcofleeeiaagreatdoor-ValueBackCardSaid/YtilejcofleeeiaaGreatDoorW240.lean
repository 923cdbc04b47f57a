/- YtilejcofleeeiaaGreatDoor: walks, part 240: value.Parse. -/
import Derived.Test.YtilejcofleeeiaaGreatDoorW238
import Derived.Defers
import Derived.Recover
namespace Go.K
open Go
set_option linter.unusedVariables false
set_option linter.unusedSimpArgs false
variable {P : Program} {wb : World} {L : Own}
/-- What a closure's end asks. -/
def endC (Q : World → Own → Prop) : Post
  | .ret, wb, e, ds, L | .normal, wb, e, ds, L => ds = [] ∧ Q wb L
  | _, _, _, _, _ => False
@[push_cast] theorem endC_ret {Q : World → Own → Prop} {e : Env} {ds : List Deferred} : endC Q .ret wb e ds L = (ds = [] ∧ Q wb L) := (rfl)
@[push_cast] theorem endC_normal {Q : World → Own → Prop} {e : Env} {ds : List Deferred} : endC Q .normal wb e ds L = (ds = [] ∧ Q wb L) := (rfl)
/-- A deferred closure that asks for the panic first. -/
theorem callsD_rec {f : FuncId} {fn : Func} {rest : Code} {id n : Nat} {ops : Array Oper} {o0 o1 : Oper} {t0 t1 : Nat} {args : List Value} {u u2 : FrameMode} {v : Value} {w : World} {R : Ending → FrameMode → World → Prop}
    (hf : P.funcs[f]? = some fn) (hb : fn.body = some (.seq (.region id ops false) rest)) (hn : fn.ntmps = n) (hrs : fn.results = #[]) (hops : ops = #[o0, o1])
    (hg0 : o0.guard = none) (hg1 : o1.guard = none) (hr0 : ∀ ev w, (execOp ev o0).run P w = .ok .recover w) (hr1 : ∀ ev w, (execOp ev o1).run P w = .ok (.value (ev (.tmp t0))) w)
    (hd0 : o0.dst = some t0) (hd1 : o1.dst = some t1) (ht0 : t0 < n) (ht1 : t1 < n) (hsz : args.length ≤ n) (hok : okCode n rest = true)
    (hu : (u = .returning ∧ v = .nilIface ∧ u2 = .returning) ∨ ∃ x older, v = x ∧ u = .panicking ({ v := v, recovered := false } :: older) ∧ u2 = .panicking ({ v := v, recovered := true } :: older))
    (hw : Sy wb L w)
    (h : VT ⟨P, n, none⟩ (tag rest) (tag (endC (fun wb L => ∀ w, Sy wb L w → R (.returned (.tuple #[])) u2 w))) wb (upd (upd (env0 args) t0 v) t1 v) [] L) : CallsD P f args.toArray u w R := by
  subst hn hops
  refine callsD_of_wpS hf hb fun c₀ cs hc => ?_
  apply wpS_seq
  apply wpS_region
  have hw0 : ∀ y, Region.wanted o0 y = true := fun y => by simp [Region.wanted, hg0]
  have hw1 : ∀ y, Region.wanted o1 y = true := fun y => by simp [Region.wanted, hg1]
  have r0 := rep0 (n := fn.ntmps) (args := args) hsz
  have r1 := r0.put (ds' := []) (some t0) (fun k hk => by cases hk; exact ht0) v
  have r2 := r1.put (ds' := []) (some t1) (fun k hk => by cases hk; exact ht1) v
  have hev : ∀ (a : Act) (e : Env), Rep fn.ntmps a (puto e (some t0) v) [] → a.eval (.tmp t0) = v := fun a e hr => by rw [hr.eval]; show (upd e t0 v) t0 = v; simp [upd]
  have main : ∀ a, Rep fn.ntmps a (upd (upd (env0 args) t0 v) t1 v) [] → rest.wpS P (bodyPostS P fn c₀ cs R) a ({ c₀ with mode := u2 } :: cs) w := fun a hr => by
    refine wpS_of_wp ((wpIn_wide (n := 0)).1 (wpIn_mono (V_sound (c := ⟨P, fn.ntmps, none⟩) rest _ wb _ [] L hok h a w hr hw) ?_))
    rintro x a' w' ⟨wb', e', ds', L', hr', hw', hq⟩
    cases x with
    | normal => exact ⟨hr'.defers.trans hq.1, u2, rfl, .tuple #[], by simp [results, hrs], hq.2 w' hw'⟩
    | ret => exact ⟨hr'.defers.trans hq.1, u2, rfl, .tuple #[], by simp [results, hrs], hq.2 w' hw'⟩
    | panic ch => exact hq.elim
    | exit id => exact hq.elim
    | goto l => exact hq.elim
    | outgrown => exact hq.elim
  have hrange : List.range (#[o0, o1] : Array Oper).size = [0, 1] := rfl
  rw [hrange]
  rcases hu with ⟨rfl, rfl, rfl⟩ | ⟨x, older, rfl, rfl, rfl⟩
  · have hc0 : ({ c₀ with mode := FrameMode.returning } : Frame) = c₀ := by cases c₀; simp_all
    rw [hc0] at main
    simp only [wpOpsS, hw0, hw1, if_true, hr0, hr1, recoverD, hc, Oper.upon, hd0, hd1, List.getElem?_toArray, List.getElem?_cons_zero, List.getElem?_cons_succ]
    simp only [Exit.thenS]
    refine main _ ?_
    rw [hev _ _ r1]
    exact r2
  · simp only [wpOpsS, hw0, hw1, if_true, hr0, hr1, recoverD, hc, Oper.upon, hd0, hd1, List.getElem?_toArray, List.getElem?_cons_zero, List.getElem?_cons_succ]
    simp only [Exit.thenS]
    refine main _ ?_
    rw [hev _ _ r1]
    exact r2
end Go.K
namespace Go.Proofs.YtilejcofleeeiaaGreatDoor
open Go Go.K
set_option maxRecDepth 100000
set_option linter.unusedVariables false
set_option linter.unusedSimpArgs false
set_option maxHeartbeats 4000000
abbrev oEr (b : Nat) (e : Int) : Nat × Obj := (b, Obj.cells #[i64 e] 30 (0, 0))
abbrev oIn (b : Nat) (q : Int) : Nat × Obj := (b, Obj.cells #[i64 q] 3 (0, 0))
abbrev oWr (b : Nat) (e q : Int) : Nat × Obj := (b, Obj.cells #[i64 e, i64 q] 70 (0, 0))
/-- A value's block: an empty one; any one. -/
abbrev oV0 (b : Nat) : Nat × Obj := (b, Obj.cells #[.bool false, i64 0, str [], .slice none 0 0] 29 (0, 0))
abbrev oVx (b : Nat) (nu : Bool) (n : Int) (tx : List UInt8) (va : Option Addr) (k vc : Nat) : Nat × Obj := (b, Obj.cells #[.bool nu, i64 n, str tx, .slice va k vc] 29 (0, 0))
theorem valueC_idle (wb w : World) (L : Own) (hw : Sy wb L w) (v1 v2 v3 : Value) :
    CallsD Tryz.prog 31 #[v1, v2, v3] .returning w fun e' u' w' => e' = .returned (.tuple #[]) ∧ u' = .returning ∧ Sy wb L w' := by
  refine callsD_rec (args := [v1, v2, v3]) Tryz.func31 rfl Tryz.ntmps31 Tryz.results31 rfl rfl rfl (fun ev w => rfl) (fun ev w => rfl) rfl rfl (by omega) (by omega) (by simp) (by kernel_rfl) (.inl ⟨rfl, rfl, rfl⟩) hw ?_
  simp (disch := omega) only [push_cast, Nat.reduceEqDiff]
  refine Eq.mpr (px (v := .bool false) (fun w => by rfl) _) ?_
  simp (disch := omega) only [push_cast, Nat.reduceEqDiff]
  rw [V_cond]
  simp (disch := omega) only [push_cast, Nat.reduceEqDiff]
  exact fun w hw => hw
theorem valueC_back (wb w : World) (M : Own) (b1 b2 b3 : Nat) (nu : Bool) (n : Int) (tx : List UInt8) (va : Option Addr) (k vc : Nat) (e q0 er : Int) (q : Nat) (h1 : wb.heap.size ≤ b1) (h2 : wb.heap.size ≤ b2) (h3 : wb.heap.size ≤ b3) (hM : ∀ b ∈ M, wb.heap.size ≤ b.1) (hw : Sy wb (oVx b1 nu n tx va k vc :: oEr b2 e :: oIn b3 q0 :: M) w) :
    CallsD Tryz.prog 31 #[.pointer (some ⟨b1, 0, none⟩), .pointer (some ⟨b2, 0, none⟩), .pointer (some ⟨b3, 0, none⟩)] (.panicking [wrongE er q]) w fun e' u' w' => e' = .returned (.tuple #[]) ∧ settle u' = .returning ∧ ∃ b4, wb.heap.size ≤ b4 ∧ Sy wb (oWr b4 er q :: oV0 b1 :: oEr b2 er :: oIn b3 q :: M) w' := by
  refine callsD_rec (args := [.pointer (some ⟨b1, 0, none⟩), .pointer (some ⟨b2, 0, none⟩), .pointer (some ⟨b3, 0, none⟩)]) Tryz.func31 rfl Tryz.ntmps31 Tryz.results31 rfl rfl rfl (fun ev w => rfl) (fun ev w => rfl) rfl rfl (by omega) (by omega) (by simp) (by kernel_rfl) (.inr ⟨_, _, rfl, rfl, rfl⟩) hw ?_
  simp (disch := omega) only [push_cast, Nat.reduceEqDiff]
  refine Eq.mpr (px (v := .bool true) (fun w => by rfl) _) ?_
  simp (disch := omega) only [push_cast, Nat.reduceEqDiff]
  rw [V_cond]
  simp (disch := omega) only [push_cast, Nat.reduceEqDiff]
  refine Eq.mpr (px (v := .tuple #[.agg #[i64 er, i64 q], .bool true]) (fun w => by rfl) _) ?_
  simp (disch := omega) only [push_cast, Nat.reduceEqDiff]
  refine newI (fun b4 hb4 hn4 => ?_)
  simp (disch := omega) only [push_cast, Nat.reduceEqDiff]
  refine storeX 0 rfl Siz.eq rfl rfl (by simp [Value.oneCell']) (by simp) ?_
  simp (disch := omega) only [push_cast, Nat.reduceEqDiff]
  rw [V_cond]
  simp (disch := omega) only [push_cast, Nat.reduceEqDiff]
  refine condX_b (fun h => by cases h) (fun _ => ?_)
  simp (disch := omega) only [push_cast, Nat.reduceEqDiff]
  have hst : ∀ (x : Nat × Obj) (e q0 : Int), x.1 = b1 → Stab wb (oWr b4 er q :: x :: oEr b2 e :: oIn b3 q0 :: M) [oWr b4 er q] := fun x e q0 hx => Stab.of (.cons_cons _ (List.nil_sublist _)) (fun b hb => by
    simp only [List.mem_cons] at hb
    rcases hb with rfl | rfl | rfl | rfl | hb
    · exact hb4
    · rw [hx]; exact h1
    · exact h2
    · exact h3
    · exact hM b hb)
  refine freeT [0, 1, 2, 3, 4] [5, 6, 7] [oWr b4 er q] (by kernel_rfl) mixed (by kernel_rfl) (hst _ _ _ rfl) ?_
  simp (disch := omega) only [push_cast, Nat.reduceEqDiff]
  refine ldOne Shp.eq mem0 rfl ?_
  simp (disch := omega) only [push_cast, Nat.reduceEqDiff]
  refine ldOne Shp.eq mem0 rfl ?_
  simp (disch := omega) only [push_cast, Nat.reduceEqDiff]
  refine storeX 1 rfl Siz.eq rfl rfl (by simp [Value.oneCell']) (by simp) ?_
  simp (disch := omega) only [push_cast, Nat.reduceEqDiff]
  refine ⟨hst _ _ _ rfl, storeX 2 rfl Siz.eq rfl rfl (by simp [Value.oneCell']) (by simp) ?_⟩
  simp (disch := omega) only [push_cast, Nat.reduceEqDiff]
  refine ⟨hst _ _ _ rfl, storeX 3 rfl Siz.eq rfl rfl (by simp [Value.oneCell']) (by simp) ?_⟩
  simp (disch := omega) only [push_cast, Nat.reduceEqDiff]
  exact ⟨hst _ _ _ rfl, fun w hw => ⟨rfl, b4, hb4, hw⟩⟩
end Go.Proofs.YtilejcofleeeiaaGreatDoor
namespace Go.Proofs.YtilejcofleeeiaaGreatDoor
open Go Go.K
set_option maxRecDepth 100000
set_option linter.unusedVariables false
set_option linter.unusedSimpArgs false
set_option maxHeartbeats 4000000
/-- What Parse answers: a value, an error, a place. -/
def PvV (r : Vl × Int × Nat) (v : Value) (M : Own) : Prop := ∃ its a c, ZeV r.1 its a c ∧ v = .tuple #[.agg (r.1.cells a c).toArray, i64 r.2.1, i64 r.2.2] ∧ M = ownR its
theorem PvV.none (e : Int) (q : Nat) : PvV (.mk false 0 [] [], e, q) (.tuple #[.agg #[.bool false, i64 0, str [], .slice none 0 0], i64 e, i64 q]) [] := ⟨_, _, _, ZeV.leafV (by simp) (by omega), rfl, rfl⟩
theorem parseV_walk (w : World) (hs : SaysAt w) (lo : Nat) (hTb : TabsAt w) (hl : LibV w) (hlo : lo ≤ w.heap.size) (f : Fld) (a : Option Addr) (c : Nat) (hA : FlAt w lo f a c) (hfn : f.nm.length ≤ 9223372036854775807) (t : List UInt8) (ht : t.length ≤ 9223372036854775807) :
    Calls Tryz.prog 12 #[.agg (f.cells a c).toArray, str t] w (RetsN w (PvV (parseVP f t))) := by
  refine enterD (args := [.agg (f.cells a c).toArray, str t]) Tryz.func12 rfl Tryz.ntmps12 (congrArg Array.toList Tryz.results12) (by kernel_rfl) (by simp) (Sy.refl w) ?_
  simp (disch := omega) only [push_cast, Nat.reduceEqDiff, Fld.cells]
  refine newI (fun b2 hb2 hn2 => ?_)
  simp (disch := omega) only [push_cast, Nat.reduceEqDiff, Fld.cells]
  refine newI (fun b4 hb4 hn4 => ?_)
  simp (disch := omega) only [push_cast, Nat.reduceEqDiff, Fld.cells]
  refine newI (fun b5 hb5 hn5 => ?_)
  simp (disch := omega) only [push_cast, Nat.reduceEqDiff, Fld.cells]
  refine newI (fun b6 hb6 hn6 => ?_)
  simp (disch := omega) only [push_cast, Nat.reduceEqDiff, Fld.cells]
  obtain ⟨o2, ho2⟩ : ∃ o, o = (b2, Obj.cells #[str f.nm, .bool f.nl, i64 f.k, i64 f.wd, i64 f.id, i64 f.ix, .slice a f.sub.length c] 26 (0, 0)) := ⟨_, rfl⟩
  have n2 : w.heap.size ≤ o2.1 := by rw [ho2]; exact hb2
  have hL : ∀ x y z : Obj, ∀ p ∈ [(b6, x), (b5, y), (b4, z), o2], w.heap.size ≤ p.1 := fun x y z p hp => by
    simp only [List.mem_cons, List.mem_nil_iff, or_false] at hp
    rcases hp with rfl | rfl | rfl | rfl
    · exact hb6
    · exact hb5
    · exact hb4
    · exact n2
  have bye : ∀ {x y z : Obj} {w' : World} {e : Int}, parseVP f t = (.mk false 0 [] [], e, 0) → Sy w [(b6, x), (b5, y), (b4, z), o2] w' → RetsN w (PvV (parseVP f t)) (.returned (.tuple #[.agg #[.bool false, i64 0, str [], .slice none 0 0], i64 e, i64 0])) w' := fun {x y z w' e} h hw' => by
    rw [h]
    exact ⟨_, [], rfl, hw'.end (hL _ _ _), by simp, PvV.none e 0⟩
  rw [V_block]
  simp (disch := omega) only [push_cast, Nat.reduceEqDiff]
  refine loadX_agg Shp.eq mem3 rfl rfl ?_
  simp (disch := omega) only [push_cast, Nat.reduceEqDiff]
  refine callV en_21 (callX_is (fun w' hw' => may_walk w' (hs.mono hw' (by rw [← ho2]; exact hL _ _ _)) lo (Nat.le_trans hlo hw'.size) f a c (hA.sy hlo hw' (by rw [← ho2]; exact hL _ _ _)) hfn) ?_)
  simp (disch := omega) only [push_cast, Nat.reduceEqDiff]
  rw [V_cond]
  simp (disch := omega) only [push_cast, Nat.reduceEqDiff]
  refine condX_b (fun hm => ?_) (fun hm => ?_)
  · rw [Bool.not_eq_true'] at hm
    simp (disch := omega) only [push_cast, Nat.reduceEqDiff]
    refine storeX 2 rfl Siz.eq rfl rfl (by simp [Value.oneCell']) (by simp) ?_
    simp (disch := omega) only [push_cast, Nat.reduceEqDiff]
    refine storeX 1 rfl Siz.eq rfl rfl (by simp [Value.oneCell']) (by simp) ?_
    simp (disch := omega) only [push_cast, Nat.reduceEqDiff]
    refine storeX 0 rfl Siz.eq rfl rfl (by simp [Value.oneCell']) (by simp) ?_
    simp (disch := omega) only [push_cast, Nat.reduceEqDiff]
    refine .inl (loadX_agg Shp.eq mem2 rfl rfl ?_)
    simp (disch := omega) only [push_cast, Nat.reduceEqDiff]
    refine ldOne Shp.eq mem1 rfl ?_
    simp (disch := omega) only [push_cast, Nat.reduceEqDiff]
    refine ldOne Shp.eq mem0 rfl ?_
    simp (disch := omega) only [push_cast, Nat.reduceEqDiff]
    exact fun w' hw' => bye (e := 5) (by unfold parseVP; rw [if_pos hm]) (by rw [ho2]; exact hw')
  rw [Bool.not_eq_false'] at hm
  simp (disch := omega) only [push_cast, Nat.reduceEqDiff]
  rw [V_cond]
  simp (disch := omega) only [push_cast, Nat.reduceEqDiff]
  refine condX_d (fun hbig => ?_) (fun hsm => ?_)
  · simp (disch := omega) only [push_cast, Nat.reduceEqDiff]
    refine storeX 2 rfl Siz.eq rfl rfl (by simp [Value.oneCell']) (by simp) ?_
    simp (disch := omega) only [push_cast, Nat.reduceEqDiff]
    refine storeX 1 rfl Siz.eq rfl rfl (by simp [Value.oneCell']) (by simp) ?_
    simp (disch := omega) only [push_cast, Nat.reduceEqDiff]
    refine storeX 0 rfl Siz.eq rfl rfl (by simp [Value.oneCell']) (by simp) ?_
    simp (disch := omega) only [push_cast, Nat.reduceEqDiff]
    refine .inl (loadX_agg Shp.eq mem2 rfl rfl ?_)
    simp (disch := omega) only [push_cast, Nat.reduceEqDiff]
    refine ldOne Shp.eq mem1 rfl ?_
    simp (disch := omega) only [push_cast, Nat.reduceEqDiff]
    refine ldOne Shp.eq mem0 rfl ?_
    simp (disch := omega) only [push_cast, Nat.reduceEqDiff]
    exact fun w' hw' => bye (e := 4) (by unfold parseVP; rw [if_neg (by rw [hm]; decide), if_pos (by omega)]) (by rw [ho2]; exact hw')
  have hpv : parseVP f t = match readV t 64 f 0 with | .no e q => (.mk false 0 [] [], e, q) | .ok v q => if q < t.length then (.mk false 0 [] [], 8, q) else (v, 0, 0) := by
    unfold parseVP
    rw [if_neg (by rw [hm]; decide), if_neg (by omega)]
    rfl
  simp (disch := omega) only [push_cast, Nat.reduceEqDiff]
  refine ⟨rfl, _, fun w => rfl, ?_⟩
  simp (disch := omega) only [push_cast, Nat.reduceEqDiff]
  refine newI (fun b7 hb7 hn7 => ?_)
  simp (disch := omega) only [push_cast, Nat.reduceEqDiff]
  refine loadX_agg Shp.eq (.tail _ mem3) rfl rfl ?_
  simp (disch := omega) only [push_cast, Nat.reduceEqDiff]
  have hM4 : ∀ b ∈ [oIn b6 0, oEr b5 0, oV0 b4, o2], w.heap.size ≤ b.1 := fun b hb => by
    simp only [List.mem_cons, List.mem_nil_iff, or_false] at hb
    rcases hb with rfl | rfl | rfl | rfl
    · exact hb6
    · exact hb5
    · exact hb4
    · exact n2
  have back : ∀ {K : Own} {nu : Bool} {n : Int} {tx : List UInt8} {va : Option Addr} {k vc : Nat} {er : Int} {q : Nat} {w' : World}, (∀ b ∈ K, w.heap.size ≤ b.1) → Sy w (K ++ [oIn b6 0, oEr b5 0, oVx b4 nu n tx va k vc, o2]) w' → CallsD Tryz.prog 31 #[.pointer (some ⟨b4, 0, none⟩), .pointer (some ⟨b5, 0, none⟩), .pointer (some ⟨b6, 0, none⟩)] (.panicking [wrongE er q]) w' fun e' u' w2 => e' = .returned (.tuple #[]) ∧ settle u' = .returning ∧ ∃ L2, (∀ b ∈ L2, w.heap.size ≤ b.1) ∧ Sy w (oV0 b4 :: oEr b5 er :: oIn b6 q :: L2) w2 := fun {K nu n tx va k vc er q w'} hK hw' => by
    refine (valueC_back w w' (K ++ [o2]) b4 b5 b6 nu n tx va k vc 0 0 er q hb4 hb5 hb6 (fun b hb => ?_) (hw'.perm (permC fun f => by simp only [wt_append, wt_cons, wt_nil]; omega))).mono ?_
    · rcases List.mem_append.1 hb with hb | hb
      · exact hK b hb
      · rw [List.mem_singleton.1 hb]; exact n2
    · rintro e1 u1 w1 ⟨h1, h2, b9, hb9, hw1⟩
      refine ⟨h1, h2, oWr b9 er q :: (K ++ [o2]), fun b hb => ?_, hw1.perm (permC fun f => by simp only [wt_append, wt_cons, wt_nil]; omega)⟩
      rcases List.mem_cons.1 hb with rfl | hb
      · exact hb9
      · rcases List.mem_append.1 hb with hb | hb
        · exact hK b hb
        · rw [List.mem_singleton.1 hb]; exact n2
  have gone : ∀ {er : Int} {q : Nat} {L2 : Own} {w' : World}, parseVP f t = (.mk false 0 [] [], er, q) → (∀ b ∈ L2, w.heap.size ≤ b.1) → Sy w (oV0 b4 :: oEr b5 er :: oIn b6 q :: L2) w' → RetsN w (PvV (parseVP f t)) (.returned (.tuple #[.agg #[.bool false, i64 0, str [], .slice none 0 0], i64 er, i64 q])) w' := fun {er q L2 w'} h hL2 hw' => by
    rw [h]
    refine ⟨_, [], rfl, hw'.end (fun b hb => ?_), by simp, PvV.none er q⟩
    simp only [List.mem_cons] at hb
    rcases hb with rfl | rfl | rfl | hb
    · exact hb4
    · exact hb5
    · exact hb6
    · exact hL2 b hb
  refine callV en_32 (callX_weak (L' := oPs b7 t 0 :: [oIn b6 0, oEr b5 0, oV0 b4, o2]) (fun w hw => by rw [ho2]; exact hw) (callX_pw (M := [oIn b6 0, oEr b5 0, oV0 b4, o2]) (fun q K => oV0 b4 :: oEr b5 0 :: oIn b6 0 :: oPs b7 t q :: (K ++ [o2])) (fun w' hw' => value_all 64 w w' lo b7 t 0 [oIn b6 0, oEr b5 0, oV0 b4, o2] false f a c hl hTb hlo (may_okT hm) hA (by omega) (Nat.zero_le _) hb7 hM4 hw') (fun q K w hw => hw.perm (permC fun f => by simp only [wt_append, wt_cons, wt_nil]; omega)) (fun v q u K hr hq hS hK => ?_) (fun er q K hr hK => ?_)))
  rotate_left
  · rw [hr] at hpv
    simp (disch := omega) only [push_cast, Nat.reduceEqDiff]
    refine .inr ⟨_, _, rfl, en_31, fun w' hw' => (back (nu := false) (n := 0) (tx := []) (va := none) (k := 0) (vc := 0) hK hw').mono ?_⟩
    rintro e1 u1 w1 ⟨rfl, hu, L2, hL2, hw1⟩
    refine ⟨rfl, hu, _, hw1, ?_⟩
    try simp (disch := omega) only [push_cast, Nat.reduceEqDiff]
    refine loadX_agg Shp.eq mem0 rfl rfl ?_
    simp (disch := omega) only [push_cast, Nat.reduceEqDiff]
    refine ldOne Shp.eq mem1 rfl ?_
    simp (disch := omega) only [push_cast, Nat.reduceEqDiff]
    refine ldOne Shp.eq mem2 rfl ?_
    simp (disch := omega) only [push_cast, Nat.reduceEqDiff]
    exact fun w2 hw2 => gone hpv hL2 hw2
  obtain ⟨its2, a2, c2, hv, rfl, rfl⟩ := hS
  rw [hr] at hpv
  simp only at hpv
  simp (disch := omega) only [push_cast, Nat.reduceEqDiff, Vl.cells]
  refine storeX 0 rfl Siz.eq rfl rfl (by simp [Value.oneCell']) (by simp) ?_
  simp (disch := omega) only [push_cast, Nat.reduceEqDiff]
  refine ldOne Shp.eq mem3 rfl ?_
  simp (disch := omega) only [push_cast, Nat.reduceEqDiff]
  rw [V_cond]
  simp (disch := omega) only [push_cast, Nat.reduceEqDiff]
  refine condX_d (fun hlt => ?_) (fun hge => ?_)
  · rw [if_pos (by omega)] at hpv
    simp (disch := omega) only [push_cast, Nat.reduceEqDiff]
    refine ldOne Shp.eq mem3 rfl ?_
    simp (disch := omega) only [push_cast, Nat.reduceEqDiff]
    refine callV en_33 (callX_fail q ?_)
    simp (disch := omega) only [push_cast, Nat.reduceEqDiff]
    refine .inr ⟨_, _, rfl, en_31, fun w' hw' => (back (K := oPs b7 t q :: ownR its2) (nu := v.nu) (n := v.num) (tx := v.tx) (va := a2) (k := v.ls.length) (vc := c2) (fun b hb => ?_) ((show Sy w (oVx b4 v.nu v.num v.tx a2 v.ls.length c2 :: oEr b5 0 :: oIn b6 0 :: oPs b7 t q :: (ownR its2 ++ [o2])) w' from hw').perm (permC fun f => by simp only [wt_append, wt_cons, wt_nil]; omega))).mono ?_⟩
    · rcases List.mem_cons.1 hb with rfl | hb
      · exact hb7
      · exact hK b hb
    rintro e1 u1 w1 ⟨rfl, hu, L2, hL2, hw1⟩
    refine ⟨rfl, hu, _, hw1, ?_⟩
    try simp (disch := omega) only [push_cast, Nat.reduceEqDiff]
    refine loadX_agg Shp.eq mem0 rfl rfl ?_
    simp (disch := omega) only [push_cast, Nat.reduceEqDiff]
    refine ldOne Shp.eq mem1 rfl ?_
    simp (disch := omega) only [push_cast, Nat.reduceEqDiff]
    refine ldOne Shp.eq mem2 rfl ?_
    simp (disch := omega) only [push_cast, Nat.reduceEqDiff]
    exact fun w2 hw2 => gone hpv hL2 hw2
  rw [if_neg (by omega)] at hpv
  simp (disch := omega) only [push_cast, Nat.reduceEqDiff]
  refine loadX_agg Shp.eq mem0 rfl rfl ?_
  simp (disch := omega) only [push_cast, Nat.reduceEqDiff]
  refine storeX 0 rfl Siz.eq rfl rfl (by simp [Value.oneCell']) (by simp) ?_
  simp (disch := omega) only [push_cast, Nat.reduceEqDiff]
  refine storeX 1 rfl Siz.eq rfl rfl (by simp [Value.oneCell']) (by simp) ?_
  simp (disch := omega) only [push_cast, Nat.reduceEqDiff]
  refine storeX 2 rfl Siz.eq rfl rfl (by simp [Value.oneCell']) (by simp) ?_
  simp (disch := omega) only [push_cast, Nat.reduceEqDiff]
  refine .inr ⟨_, _, rfl, en_31, fun w' hw' => (valueC_idle w w' _ hw' _ _ _).mono ?_⟩
  rintro e1 u1 w1 ⟨rfl, rfl, hw1⟩
  refine ⟨rfl, rfl, _, hw1, ?_⟩
  try simp (disch := omega) only [push_cast, Nat.reduceEqDiff]
  refine loadX_agg Shp.eq mem0 rfl rfl ?_
  simp (disch := omega) only [push_cast, Nat.reduceEqDiff]
  refine ldOne Shp.eq mem1 rfl ?_
  simp (disch := omega) only [push_cast, Nat.reduceEqDiff]
  refine ldOne Shp.eq mem2 rfl ?_
  simp (disch := omega) only [push_cast, Nat.reduceEqDiff]
  intro w2 hw2
  rw [hpv]
  refine ⟨_, ownR its2, rfl, ?_, hK, its2, a2, c2, hv, rfl, rfl⟩
  have h2 := hw2.left (A := [_, _, _, _]) (B := ownR its2 ++ [o2]) (fun b hb => by
    simp only [List.mem_cons, List.mem_nil_iff, or_false] at hb
    rcases hb with rfl | rfl | rfl | rfl
    · exact hb4
    · exact hb5
    · exact hb6
    · exact hb7)
  have h3 := h2.mid (ownR its2) [o2] (C := []) (fun b hb => by rw [List.mem_singleton.1 hb]; exact n2)
  rwa [List.append_nil] at h3
end Go.Proofs.YtilejcofleeeiaaGreatDoor
