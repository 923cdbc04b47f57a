/- YtilejcofleeeiaaGreatDoor: the walk calculus, part Ke: proved rules by which the walks of this seat are made. -/
import Derived.Test.YtilejcofleeeiaaGreatDoorKd
import Derived.RangeFuncRecord

namespace Go.K
open Go
set_option linter.unusedVariables false
set_option linter.unusedSimpArgs false

/-! ### Calls of a value: a function, or a round of a loop over a function -/
def CallsV (P : Program) (f : Value) (args : Array Value) (w : World) (R : Ending → World → Prop) : Prop :=
  match f with
  | .func (.func g) first cap => entersB P g = true ∧ Calls P g (first ++ args ++ cap) w R
  | .func (.yield l) first _ => ∃ f tmps assign body, (Instr.yield l (first ++ args)).run P w = .ok (.round l f tmps assign body) w ∧ ∀ r m, RoundIn { Fence.wide with round := r } m P l f tmps assign body w R
  | _ => False

theorem CallsV.mono {P : Program} {f : Value} {args : Array Value} {w : World} {R R' : Ending → World → Prop} (h : CallsV P f args w R) (hr : ∀ e w', R e w' → R' e w') : CallsV P f args w R' := by
  unfold CallsV at *
  split at h
  · exact ⟨h.1, h.2.mono hr⟩
  · obtain ⟨f, tmps, a, b, h1, h2⟩ := h
    exact ⟨f, tmps, a, b, h1, fun r m => (h2 r m).mono hr⟩
  · exact h

def afterV (K : Value → World → Own → Prop) (Kp : KP) : Ending → World → Prop
  | .returned v, w' => ∃ wb' L', Sy wb' L' w' ∧ K v wb' L'
  | .panicked ch, w' => ∃ wb' L', Sy wb' L' w' ∧ Kp ch wb' L'
  | .outgrown, _ => False

theorem opS_round {c : Cfg} {fo : Operand} {as : Array Operand} {ats : Array TypeId} {d : Option Nat} {ty : TypeId} {pos : String} {af : Array Edge} {g : Option (Nat × Bool)} {f : Value} {args : Array Value}
    {wb : World} {e : Env} {ds : List Deferred} {L : Own} {K : Value → World → Own → Prop} {Kp : KP} (hf : ev e fo = f) (ha : as.map (ev e) = args)
    (h : ∀ w, Sy wb L w → CallsV c.P f args w (afterV K Kp)) : OpS c ⟨d, .call ⟨.value fo, as, ats⟩, ty, pos, af, g⟩ wb e ds L (fun v wb' ds' L' => ds' = ds ∧ K v wb' L') Kp := by
  intro a w hr hw next Q hn hp
  have hw' := h w hw
  have hsem : (⟨d, .call ⟨.value fo, as, ats⟩, ty, pos, af, g⟩ : Oper).semAt c.r a.eval = (do let d ← resolve (ev e) { callee := .value fo, args := as, argTypes := ats } ty; invoke d.target d.args) := by
    rw [semAt_exec _ _ _ (by intro cl h; cases h), hr.eval]
    simp only [execOp]
  unfold CallsV at hw'
  split at hw'
  · rename_i g first cap
    have hrun : (do let d ← resolve (ev e) { callee := .value fo, args := as, argTypes := ats } ty; invoke d.target d.args).run c.P w = .ok (.enter g (first ++ args ++ cap)) w := by
      simp [resolve, hf, ha, Deferred.ofValue, invoke, enters_run hw'.1]
    rw [hsem, hrun]
    refine ⟨fun h => by simp [Cfg.F, Fence.wide] at h, callsIn_of (hw'.2.mono ?_)⟩
    intro en w' hq
    cases en with
    | returned v =>
      obtain ⟨wb', L', hsy, hk⟩ := hq
      have h2 := hn v wb' ds L' w' ⟨rfl, hk⟩ hsy
      rw [← hr.defers] at h2
      exact h2
    | panicked ch =>
      obtain ⟨wb', L', hsy, hk⟩ := hq
      exact hp ch wb' L' w' hk hsy
    | outgrown => exact hq.elim
  · rename_i l first cap
    obtain ⟨f, tmps, A, B, hy, hR⟩ := hw'
    have hrun : (do let d ← resolve (ev e) { callee := .value fo, args := as, argTypes := ats } ty; invoke d.target d.args).run c.P w = .ok (.round l f tmps A B) w := by
      simp [resolve, hf, ha, Deferred.ofValue, invoke, hy]
    rw [hsem, hrun]
    refine ⟨fun h => by simp [Cfg.F, Fence.wide] at h, (hR c.r _).mono ?_⟩
    intro en w' hq
    cases en with
    | returned v =>
      obtain ⟨wb', L', hsy, hk⟩ := hq
      have h2 := hn v wb' ds L' w' ⟨rfl, hk⟩ hsy
      rw [← hr.defers] at h2
      exact h2
    | panicked ch =>
      obtain ⟨wb', L', hsy, hk⟩ := hq
      exact hp ch wb' L' w' hk hsy
    | outgrown => exact hq.elim
  · exact hw'.elim
theorem callVX {c : Cfg} {fo : Operand} {as : Array Operand} {ats : Array TypeId} {d : Option Nat} {ty : TypeId} {pos : String} {af : Array Edge} {g : Option (Nat × Bool)} {f : Value} {args : Array Value}
    {wb : World} {e : Env} {ds : List Deferred} {L : Own} {K : Value → World → Own → Prop} {Kp : KP} (hf : ev e fo = f) (ha : as.map (ev e) = args) (hen : ∀ g first cap, f = .func (.func g) first cap → entersB c.P g = true)
    (h : ∀ w, Sy wb L w → CallsV c.P f args w (afterV K Kp)) : CallV c f args (tag ⟨d, .call ⟨.value fo, as, ats⟩, ty, pos, af, g⟩) wb e ds L (tag K) (tag Kp) := by
  unfold CallV
  split
  · rename_i g first cap
    exact ⟨hen g first cap rfl, fun w hw => (h w hw).2.mono fun en w' hq => by cases en <;> exact hq⟩
  · exact opS_round hf ha h

/-! ### One round -/
def putL (e : Env) : List (Nat × Value) → Env
  | [] => e
  | (t, v) :: l => putL (upd e t v) l
def ended (l : Nat) (L : Own) (wb : World) (j : Option Code) (R : Ending → World → Prop) : Prop :=
  ∃ i rec, L[i]? = some (l, .loop rec) ∧ ∀ w, Sy wb (L.set i (l, .loop { rec with state := if j.isNone then .ready else .done, pending := j })) w → R (.returned (.bool j.isNone)) w
def roundP (l : Nat) {R : Ending → World → Prop} (_ : Tag R) : Post
  | .normal, wb, _, _, L => ended l L wb none R
  | .ret, wb, _, _, L => ended l L wb (some .ret) R
  | .exit id, wb, _, _, L => ended l L wb (some (.exit id)) R
  | _, _, _, _, _ => False

theorem Sy.loop_run {wb : World} {L : Own} {w : World} {i l : Nat} {rec : Loop} (h : Sy wb L w) (hi : L[i]? = some (l, .loop rec)) : w.heap[l]? = some (.loop rec) :=
  h.own l _ (List.mem_iff_getElem?.2 ⟨i, hi⟩)
theorem Sy.put {wb : World} {L : Own} {w : World} {i l : Nat} {o : Obj} (o' : Obj) (h : Sy wb L w) (hi : L[i]? = some (l, o)) : Sy wb (L.set i (l, o')) (w.putObj l o') := h.set o' hi

theorem rep_putL {n : Nat} : ∀ (ps : List Nat) (args : List Value) (tmps : Array Value) (e : Env), ps.length = args.length → (∀ p ∈ ps, p < n) → Rep n { tmps := tmps, defers := [] } e [] →
    Rep n { tmps := ((ps.zip args).foldl (fun tmps (ta : Nat × Value) => tmps.setIfInBounds ta.1 ta.2) tmps), defers := [] } (putL e (ps.zip args)) []
  | [], _, _, _, _, _, h => by simpa [putL] using h
  | p :: ps, [], _, _, hl, _, _ => by simp at hl
  | p :: ps, v :: args, tmps, e, hl, hp, h => by
    simp only [List.zip_cons_cons, List.foldl_cons, putL]
    refine rep_putL ps args _ _ (by simpa using hl) (fun q hq => hp q (by simp [hq])) ?_
    have := h.put (ds' := []) (some p) (fun k hk => by cases hk; exact hp p (by simp)) v
    simpa [Act.put, puto] using this

theorem wpIn_any {P : Program} {r : Option Nat} {m : Nat} {cd : Code} {Q : Exit → Act → World → Prop} {a : Act} {w : World} (h : cd.wpIn { Fence.wide with round := r } 0 P Q a w) : cd.wpIn { Fence.wide with round := r } m P Q a w :=
  fun b k cs hro hb _ => h b k cs hro hb (fun _ h => by simp [Fence.wide] at h)
theorem rep0 {n : Nat} {args : List Value} (hsz : args.length ≤ n) : Rep n { tmps := args.toArray ++ Array.replicate (n - args.toArray.size) undef, defers := [] } (env0 args) [] := by
  refine ⟨?_, fun t => ?_, rfl⟩
  · simp; omega
  · simp only [env0, Array.getD_eq_getD_getElem?, List.getD_eq_getElem?_getD]
    rw [Array.getElem?_append]
    simp only [List.size_toArray, List.getElem?_toArray]
    split
    · rfl
    · rename_i hlt
      rw [Array.getElem?_replicate]
      have : args[t]? = none := by simp; omega
      rw [this]
      split <;> rfl

theorem roundX {P : Program} {n : Nat} {wb : World} {L : Own} {l i : Nat} {pend : Option Code} {fn : FuncId} {tmps : Array Value} {ps : List Nat} {A B : Code} {dd : Nat} {args : List Value} {R : Ending → World → Prop} {e : Env}
    (hi : L[i]? = some (l, .loop ⟨.ready, pend, fn, tmps, ps.toArray, A, B, dd⟩)) (htm : Rep n { tmps := tmps, defers := [] } e []) (hl : ps.length = args.length) (hps : ∀ p ∈ ps, p < n) (hokA : okCode n A = true) (hokB : okCode n B = true)
    (h : VT ⟨P, n, some l⟩ (tag A) (tag (thenP (tag fun wb' e' ds' L' => ds' = [] ∧ ∃ j, L'[j]? = some (l, .loop ⟨.ready, pend, fn, tmps, ps.toArray, A, B, dd⟩) ∧
      VT ⟨P, n, some l⟩ (tag B) (tag (roundP l (tag R))) wb' e' [] (L'.set j (l, .loop ⟨.busy, pend, fn, tmps, ps.toArray, A, B, dd⟩))) (tag fun _ _ _ _ _ => False))) wb (putL e (ps.zip args)) [] L) :
    ∀ w, Sy wb L w → CallsV P (.func (.yield l) #[] #[]) args.toArray w R := by
  intro w hw
  have hrec := hw.loop_run hi
  refine ⟨fn, _, A, B, by rw [Array.empty_append]; exact run_yield (P := P) hrec (args := args.toArray) (by simp [hl]), fun r m => ?_⟩
  refine roundIn_of_wpIn (F := { Fence.wide with round := r }) trivial ?_
  have hrep := rep_putL ps args tmps e hl hps htm
  have hz : (ps.toArray.zip args.toArray).foldl (fun tmps (ta : Nat × Value) => tmps.setIfInBounds ta.1 ta.2) tmps = (ps.zip args).foldl (fun tmps (ta : Nat × Value) => tmps.setIfInBounds ta.1 ta.2) tmps := by
    rw [List.zip_toArray, List.foldl_toArray]
  rw [← hz] at hrep
  have h1 := V_sound (c := ⟨P, n, some l⟩) A _ wb _ [] L hokA h _ w hrep hw
  refine wpIn_any (wpIn_mono h1 ?_)
  rintro x a' w' ⟨wb', e', ds', L', hr', hw', hq⟩
  cases x with
  | normal =>
    obtain ⟨rfl, j, hj, hq⟩ := hq
    have hrec' := hw'.loop_run hj
    refine ⟨_, run_beginRound hrec' rfl, wpIn_any (wpIn_mono (V_sound (c := ⟨P, n, some l⟩) B _ wb' e' [] _ hokB hq a' _ hr' (hw'.put _ hj)) ?_)⟩
    rintro x a'' w'' ⟨wb'', e'', ds'', L'', hr'', hw'', hq⟩
    cases x with
    | normal => obtain ⟨i, rec, hi, hR⟩ := hq; exact ⟨_, _, run_endRound none (hw''.loop_run hi), hR _ (hw''.put _ hi)⟩
    | ret => obtain ⟨i, rec, hi, hR⟩ := hq; exact ⟨_, _, run_endRound (some .ret) (hw''.loop_run hi), hR _ (hw''.put _ hi)⟩
    | exit id => obtain ⟨i, rec, hi, hR⟩ := hq; exact ⟨_, _, run_endRound (some (.exit id)) (hw''.loop_run hi), hR _ (hw''.put _ hi)⟩
    | panic ch => exact hq.elim
    | goto t => exact hq.elim
    | outgrown => exact hq.elim
  | _ => exact hq.elim

/-! ### The loop over a function -/
def jumpP (Q : Post) : Option Code → Post
  | none, _, wb, e, ds, L => Q .normal wb e ds L
  | some .ret, _, wb, e, ds, L => Q .ret wb e ds L
  | some (.exit id), _, wb, e, ds, L => Q (.exit id) wb e ds L
  | _, _, _, _, _, _ => False
/-- What the function that was ranged over has left. -/
def loopEnd (l : Nat) (Q : Post) (e : Env) (ds : List Deferred) : Ending → World → Prop
  | .returned _, w' => ∃ wb' L' i rec, L'[i]? = some (l, .loop rec) ∧ rec.state ≠ .busy ∧ Sy wb' L' w' ∧ jumpP Q rec.pending .normal wb' e ds (L'.set i (l, .loop { rec with state := .exhausted }))
  | _, _ => False
theorem rangeX {c : Cfg} {fo : Operand} {ps : List Nat} {A B : Code} {Q : Post} {wb : World} {e : Env} {ds : List Deferred} {L : Own} {g : FuncId} {first cap : Array Value} (hc : c.r = none) (hf : ev e fo = .func (.func g) first cap) (hen : entersB c.P g = true)
    (h : ∀ fn tm d l, Rep c.n { tmps := tm, defers := [] } e [] → d ≠ l → wb.heap.size ≤ d → wb.heap.size ≤ l → d ∉ L.map (·.1) → l ∉ L.map (·.1) → ∀ w, Sy wb ((l, .loop ⟨.ready, none, fn, tm, ps.toArray, A, B, d⟩) :: (d, .deferred (some [])) :: L) w →
      Calls c.P g (first ++ #[.func (.yield l) #[] #[]] ++ cap) w (loopEnd l Q e ({ target := .collected d, args := #[] } :: ds))) :
    SemT c (tag (.rangeFunc fo ps.toArray A B)) (tag Q) wb e ds L := by
  intro a w hr hw
  refine wpIn_rangeFunc fun fn hfn => ?_
  have hw1 := hw.new (.deferred (some []))
  have hw2 := hw1.new (.loop ⟨.ready, none, fn, a.tmps, ps.toArray, A, B, w.heap.size⟩)
  have hs1 : ({ w with heap := w.heap.push (.deferred (some [])) } : World).heap.size = w.heap.size + 1 := by simp
  rw [hs1] at hw2
  have hfr2 := hw1.fresh
  rw [hs1] at hfr2
  simp only [List.map_cons, List.mem_cons, not_or] at hfr2
  have hsz := hw.size
  generalize hW : ((w.alloc (.deferred (some []))).alloc (.loop { state := .ready, pending := none, fn := fn, tmps := a.tmps, params := ps.toArray, assign := A, body := B, defers := w.heap.size })) = W
  have hw3 : Sy wb ((w.heap.size + 1, .loop ⟨.ready, none, fn, a.tmps, ps.toArray, A, B, w.heap.size⟩) :: (w.heap.size, .deferred (some [])) :: L) W := by rw [← hW]; exact hw2
  refine ⟨w.heap.size + 1, [{ target := .collected w.heap.size, args := #[] }], W, { target := .fn (.func g) cap, args := first ++ #[.func (.yield (w.heap.size + 1)) #[] #[]] }, W, g, first ++ #[.func (.yield (w.heap.size + 1)) #[] #[]] ++ cap, W,
    (by rw [show c.F.round = none from hc, ← hW]; exact run_enterLoop_outer (P := c.P) (w := w) fn a.tmps ps.toArray A B), ?_, fun _ _ => trivial, ?_, fun h => by simp [Cfg.F, Fence.wide] at h, ?_⟩
  · simp only [resolve, rangeCall, Sem.run_bind, hr.eval, hf, Deferred.ofValue, Sem.run_pure, Result.andThen_ok]
    simp [ev]
  · simp only [invoke]
    exact enters_run hen _ _
  · refine callsIn_of ((h fn a.tmps w.heap.size (w.heap.size + 1) ⟨hr.size, hr.get, rfl⟩ (by omega) hsz (by omega) hw.fresh hfr2.2 _ hw3).mono ?_)
    intro en w' hq
    cases en with
    | returned v =>
      obtain ⟨wb', L', i, rec, hi, hb, hsy, hj⟩ := hq
      refine ⟨_, _, run_endLoop (hsy.loop_run hi) hb, ?_⟩
      have hsy' := hsy.put (.loop { rec with state := .exhausted }) hi
      have hrep : Rep c.n { a with defers := [{ target := .collected w.heap.size, args := #[] }] ++ a.defers } e ({ target := .collected w.heap.size, args := #[] } :: ds) := ⟨hr.size, hr.get, by simp [hr.defers]⟩
      revert hsy' hj
      cases hp : rec.pending with
      | none => intro hj hsy'; exact ⟨wb', e, _, _, hrep, hsy', hj⟩
      | some cd =>
        intro hj hsy'
        cases cd with
        | ret => exact wpIn_ret ⟨wb', e, _, _, hrep, hsy', hj⟩
        | exit id => exact wpIn_exit ⟨wb', e, _, _, hrep, hsy', hj⟩
        | _ => exact (show False from hj).elim
    | panicked ch => exact hq.elim
    | outgrown => exact hq.elim

/-! ### A function with such a loop -/
def leaveL (P : Program) (rs : List ResultVar) (R : Ending → World → Prop) : List Deferred → World → Env → Own → Prop
  | [], wb, e, L => ResL P wb L e rs fun vs => ∀ w, Sy wb L w → R (.returned (tup vs)) w
  | d :: ds, wb, e, L => ∃ r i, d.target = .collected r ∧ L[i]? = some (r, .deferred (some [])) ∧ leaveL P rs R ds wb e (L.set i (r, .deferred none))
def retM (P : Program) (rs : List ResultVar) {R : Ending → World → Prop} (_ : Tag R) : Post
  | .ret, wb, e, ds, L | .normal, wb, e, ds, L => leaveL P rs R ds wb e L
  | _, _, _, _, _ => False
theorem leaveL_sound {P : Program} {F : Fence} {m n : Nat} {fn : Func} {rs : List ResultVar} {R : Ending → World → Prop} {e : Env} {tmps : Array Value} (hrs : fn.results.toList = rs) (hr : Rep n { tmps := tmps, defers := [] } e []) : ∀ (ds : List Deferred) (wb : World) (L : Own) (w : World),
    Sy wb L w → leaveL P rs R ds wb e L → LeavesInM F m P fn tmps R ds .returning w
  | [], wb, L, w, hw, h => by
    obtain ⟨vs, hk, hrun⟩ := results_run (fn := fn) (a := { tmps := tmps, defers := [] }) hr hw (by rw [hrs]; exact h)
    exact ⟨_, hrun, hk w hw⟩
  | d :: ds, wb, L, w, hw, ⟨r, i, hd, hi, h⟩ => by
    refine ⟨by simp, .inl ⟨r, _, hd, run_takeDeferred (hw.own r _ (List.mem_iff_getElem?.2 ⟨i, hi⟩)), ?_⟩⟩
    exact leaveL_sound hrs hr ds wb _ _ (hw.put _ hi) h
theorem enterM {P : Program} {f : FuncId} {fn : Func} {code : Code} {args : List Value} {w : World} {L : Own} {R : Ending → World → Prop} (hf : P.funcs[f]? = some fn) (hb : fn.body = some code) {rs : List ResultVar} {n : Nat} (hn : fn.ntmps = n) (hrs : fn.results.toList = rs) (hok : okCode n code = true) (hsz : args.length ≤ n)
    (hL : Sy w L w) (h : VT ⟨P, n, none⟩ (tag code) (tag (retM P rs (tag R))) w (env0 args) [] L) : Calls P f args.toArray w R := by
  subst hn
  refine calls_of_in (r := none) (m := 0) (callsIn_of_wp_marks (F := { Fence.wide with round := none }) hf hb trivial (wpIn_mono (V_sound (c := ⟨P, fn.ntmps, none⟩) code _ w _ [] L hok h { tmps := args.toArray ++ Array.replicate (fn.ntmps - args.toArray.size) undef, defers := [] } w (rep0 hsz) hL) ?_))
  rintro x a w' ⟨wb', e', ds', L', hr', hw', hq⟩
  cases x with
  | normal => rw [← hr'.defers] at hq; exact leaveL_sound hrs ⟨hr'.size, hr'.get, rfl⟩ _ _ _ _ hw' hq
  | ret => rw [← hr'.defers] at hq; exact leaveL_sound hrs ⟨hr'.size, hr'.get, rfl⟩ _ _ _ _ hw' hq
  | panic ch => exact hq.elim
  | exit id => exact hq.elim
  | goto l => exact hq.elim
  | outgrown => exact hq.elim
end Go.K
