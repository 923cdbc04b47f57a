/- YtilejcofleeeiaaGreatDoor: walks, part 228: a parser of values: what it owns, how its functions end; bytes, signs, rows, digits. -/
import Derived.Test.YtilejcofleeeiaaGreatDoorW226
import Derived.Test.YtilejcofleeeiaaGreatDoorW216
import Derived.Defers
import Derived.Recover
namespace Go.Proofs.YtilejcofleeeiaaGreatDoor
open Go Go.K
set_option maxRecDepth 100000
set_option linter.unusedVariables false
set_option linter.unusedSimpArgs false
set_option maxHeartbeats 4000000
theorem VAt.rng {w : World} {lo : Nat} : ∀ (d : Nat) {v : Vl} {a : Option Addr} {c : Nat}, VAt w lo v a c → rngD d v
  | 0, _, _, _, _ => trivial
  | d + 1, v, a, c, h => ⟨h.hn, fun x hx => by
      obtain ⟨i, hi⟩ := List.mem_iff_getElem?.1 hx
      obtain ⟨_, _, _, _, _, _, _, h4⟩ := h.get hi
      exact VAt.rng d h4⟩
theorem print_walk (w : World) (hs : SaysAt w) (lo : Nat) (hTb : TabsAt w) (hl : LibV w) (hlo : lo ≤ w.heap.size) (f : Fld) (v : Vl) (a va : Option Addr) (c vc : Nat) (hA : FlAt w lo f a c) (hfn : f.nm.length ≤ 9223372036854775807) (hV : VAt w lo v va vc) :
    Calls Tryz.prog 7 #[.agg (f.cells a c).toArray, .agg (v.cells va vc).toArray] w (Rets w (Is (.tuple #[str (printP f v).1, i64 (printP f v).2]))) := by
  refine enterT (args := [.agg (f.cells a c).toArray, .agg (v.cells va vc).toArray]) Tryz.func7 rfl Tryz.ntmps7 (congrArg Array.toList Tryz.results7) (by kernel_rfl) (by simp) (Sy.refl w) ?_
  simp (disch := omega) only [push_cast, Nat.reduceEqDiff, Fld.cells, Vl.cells]
  refine newI (fun b2 hb2 hn2 => ?_)
  simp (disch := omega) only [push_cast, Nat.reduceEqDiff, Fld.cells, Vl.cells]
  refine newI (fun b3 hb3 hn3 => ?_)
  simp (disch := omega) only [push_cast, Nat.reduceEqDiff, Fld.cells, Vl.cells]
  rw [V_block]
  simp (disch := omega) only [push_cast, Nat.reduceEqDiff, Fld.cells, Vl.cells]
  have hL : ∀ x y : Obj, ∀ p ∈ [(b3, x), (b2, y)], w.heap.size ≤ p.1 := fun x y p hp => by
    simp only [List.mem_cons, List.mem_nil_iff, or_false] at hp
    rcases hp with rfl | rfl
    · exact hb3
    · exact hb2
  refine loadX_agg Shp.eq mem1 rfl rfl ?_
  simp (disch := omega) only [push_cast, Nat.reduceEqDiff]
  refine callV en_21 (callX_is (fun w' hw' => may_walk w' (hs.mono hw' (hL _ _)) lo (Nat.le_trans hlo hw'.size) f a c (hA.sy hlo hw' (hL _ _)) hfn) ?_)
  simp (disch := omega) only [push_cast, Nat.reduceEqDiff]
  rw [V_cond]
  simp (disch := omega) only [push_cast, Nat.reduceEqDiff]
  refine condX_b (fun hm => ?_) (fun hm => ?_)
  · simp (disch := omega) only [push_cast, Nat.reduceEqDiff]
    rw [Bool.not_eq_true'] at hm
    have hf : fitsP f v = 5 := by unfold fitsP; rw [hm]; rfl
    exact finIs (hL _ _) (by unfold printP; rw [hf]; rfl)
  rw [Bool.not_eq_false'] at hm
  simp (disch := omega) only [push_cast, Nat.reduceEqDiff]
  refine loadX_agg Shp.eq mem1 rfl rfl ?_
  simp (disch := omega) only [push_cast, Nat.reduceEqDiff]
  refine loadX_agg Shp.eq mem0 rfl rfl ?_
  simp (disch := omega) only [push_cast, Nat.reduceEqDiff]
  refine callV en_22 (callX_is (fun w' hw' => good_walk w' lo (hTb.mono hw' (hL _ _)) (Nat.le_trans hlo hw'.size) f v a va c vc (mayD_okD hm) (hA.sy hlo hw' (hL _ _)) (hV.sy hlo hw' (hL _ _))) ?_)
  simp (disch := omega) only [push_cast, Nat.reduceEqDiff]
  rw [V_cond]
  simp (disch := omega) only [push_cast, Nat.reduceEqDiff]
  refine condX_b (fun hg => ?_) (fun hg => ?_)
  · simp (disch := omega) only [push_cast, Nat.reduceEqDiff]
    rw [Bool.not_eq_true'] at hg
    have hf : fitsP f v = 7 := by unfold fitsP; rw [hm, hg]; rfl
    exact finIs (hL _ _) (by unfold printP; rw [hf]; rfl)
  rw [Bool.not_eq_false'] at hg
  have hf : fitsP f v = 0 := by unfold fitsP; rw [hm, hg]; rfl
  obtain ⟨_, hfit, hwv⟩ := fitsP_zero hf
  simp (disch := omega) only [push_cast, Nat.reduceEqDiff]
  refine newI (fun b6 hb6 hn6 => ?_)
  simp (disch := omega) only [push_cast, Nat.reduceEqDiff]
  refine loadX_agg Shp.eq mem2 rfl rfl ?_
  simp (disch := omega) only [push_cast, Nat.reduceEqDiff]
  refine loadX_agg Shp.eq mem1 rfl rfl ?_
  simp (disch := omega) only [push_cast, Nat.reduceEqDiff]
  obtain ⟨M, hM⟩ : ∃ M : Own, M = [(b3, Obj.cells #[.bool v.nu, i64 v.num, str v.tx, .slice va v.ls.length vc] 29 (0, 0)), (b2, Obj.cells #[str f.nm, .bool f.nl, i64 f.k, i64 f.wd, i64 f.id, i64 f.ix, .slice a f.sub.length c] 26 (0, 0))] := ⟨_, rfl⟩
  have hMn : ∀ p ∈ M, w.heap.size ≤ p.1 := by rw [hM]; exact hL _ _
  have hB : BlO w 58 b6 [] (oBl 58 b6 (.pointer none) (.slice none 0 0) :: M) M := ⟨_, _, .inl rfl, ⟨rfl, .inl ⟨rfl, rfl, rfl⟩⟩, fun _ => rfl, hb6⟩
  refine callV en_23 (callX_weak (L' := oBl 58 b6 (.pointer none) (.slice none 0 0) :: M) (by rw [hM]; exact fun w hw => hw) (callX_own (fun w' hw' => print_all 64 w w' lo b6 [] _ M false f v a va c vc hl hlo (may_okT hm) hfit (hV.rng 64) hA hV hB hMn (by simp only [List.length_nil]; omega) hw') (fun v' L4 hv4 => ?_)))
  obtain ⟨rfl, bs, hB4, hc4, hn4⟩ := hv4
  simp (disch := omega) only [push_cast, Nat.reduceEqDiff]
  refine callV en_24 (callX_is (fun w' hw' => len_walk w w' _ b6 bs L4 M hB4 hw') ?_)
  simp (disch := omega) only [push_cast, Nat.reduceEqDiff]
  rw [V_cond]
  simp (disch := omega) only [push_cast, Nat.reduceEqDiff]
  refine condX_d (fun hbig => ?_) (fun hbig => ?_)
  · simp (disch := omega) only [push_cast, Nat.reduceEqDiff]
    refine finIs (hB4.new hMn) ?_
    have h2 : 65536 < (showV 64 f v).length := by
      rcases hc4 with rfl | ⟨_, h2⟩
      · rw [List.nil_append] at hbig; omega
      · simpa using h2
    unfold printP
    rw [if_neg (by rw [hf]; decide), if_pos h2]
  simp (disch := omega) only [push_cast, Nat.reduceEqDiff]
  obtain rfl : bs = showV 64 f v := by
    rcases hc4 with h | ⟨h1, _⟩
    · simpa using h
    · omega
  refine callV en_25 (callX_own (fun w' hw' => string_walk w w' _ b6 _ L4 M hB4 hw') (fun v' L5 hv5 => ?_))
  obtain ⟨rfl, rfl⟩ := hv5
  simp (disch := omega) only [push_cast, Nat.reduceEqDiff]
  refine finIs hMn ?_
  unfold printP
  rw [if_neg (by rw [hf]; decide), if_neg (by omega)]
end Go.Proofs.YtilejcofleeeiaaGreatDoor
namespace Go.K
open Go
variable {P : Program} {wb : World} {L : Own} {Kp : KP}
/-- A call that returns or panics. -/
theorem callX_pan {f : FuncId} {args : Array Value} {S : Value → Own → Prop} {SP : List PanicEntry → Own → Prop} {K : Value → World → Own → Prop} (h : ∀ w, Sy wb L w → Calls P f args w (fun e w' => (∃ v L', e = .returned v ∧ Sy wb L' w' ∧ S v L') ∨ (∃ ch L', e = .panicked ch ∧ Sy wb L' w' ∧ SP ch L')))
    (hk : ∀ v L', S v L' → K v wb L') (hp : ∀ ch L', SP ch L' → Kp ch wb L') : CallX P f args wb L (tag K) (tag Kp) := fun w hw =>
  (h w hw).mono fun e w' hx => by
    rcases hx with ⟨v, L', rfl, hs, hv⟩ | ⟨ch, L', rfl, hs, hv⟩
    · exact ⟨wb, L', hs, hk v L' hv⟩
    · exact ⟨wb, L', hs, hp ch L' hv⟩
/-- What a function's end asks, where one closure may have been deferred. -/
def retD (P : Program) (rs : List ResultVar) {R : Ending → World → Prop} (_ : Tag R) : Post
  | .ret, wb, e, ds, L | .normal, wb, e, ds, L =>
    (ds = [] ∧ ResL P wb L e rs fun vs => ∀ w, Sy wb L w → R (.returned (tup vs)) w) ∨
    (∃ (g : FuncId) (cap : Array Value), ds = [{ target := .fn (.func g) cap, args := #[] }] ∧ entersB P g = true ∧
      ∀ w, Sy wb L w → CallsD P g cap .returning w fun e' u' w' => e' = .returned (.tuple #[]) ∧ u' = .returning ∧ ∃ L', Sy wb L' w' ∧ ResL P wb L' e rs fun vs => ∀ w, Sy wb L' w → R (.returned (tup vs)) w)
  | .panic ch, wb, e, ds, L =>
    (ds = [] ∧ ∀ w, Sy wb L w → R (.panicked ch) w) ∨
    (∃ (g : FuncId) (cap : Array Value), ds = [{ target := .fn (.func g) cap, args := #[] }] ∧ entersB P g = true ∧
      ∀ w, Sy wb L w → CallsD P g cap (.panicking ch) w fun e' u' w' => e' = .returned (.tuple #[]) ∧ settle u' = .returning ∧ ∃ L', Sy wb L' w' ∧ ResL P wb L' e rs fun vs => ∀ w, Sy wb L' w → R (.returned (tup vs)) w)
  | _, _, _, _, _ => False
@[push_cast] theorem retD_ret {rs : List ResultVar} {R : Ending → World → Prop} {e : Env} {ds : List Deferred} : retD P rs (tag R) .ret wb e ds L = ((ds = [] ∧ ResL P wb L e rs fun vs => ∀ w, Sy wb L w → R (.returned (tup vs)) w) ∨
    (∃ (g : FuncId) (cap : Array Value), ds = [{ target := .fn (.func g) cap, args := #[] }] ∧ entersB P g = true ∧
      ∀ w, Sy wb L w → CallsD P g cap .returning w fun e' u' w' => e' = .returned (.tuple #[]) ∧ u' = .returning ∧ ∃ L', Sy wb L' w' ∧ ResL P wb L' e rs fun vs => ∀ w, Sy wb L' w → R (.returned (tup vs)) w)) := (rfl)
@[push_cast] theorem retD_normal {rs : List ResultVar} {R : Ending → World → Prop} {e : Env} {ds : List Deferred} : retD P rs (tag R) .normal wb e ds L = ((ds = [] ∧ ResL P wb L e rs fun vs => ∀ w, Sy wb L w → R (.returned (tup vs)) w) ∨
    (∃ (g : FuncId) (cap : Array Value), ds = [{ target := .fn (.func g) cap, args := #[] }] ∧ entersB P g = true ∧
      ∀ w, Sy wb L w → CallsD P g cap .returning w fun e' u' w' => e' = .returned (.tuple #[]) ∧ u' = .returning ∧ ∃ L', Sy wb L' w' ∧ ResL P wb L' e rs fun vs => ∀ w, Sy wb L' w → R (.returned (tup vs)) w)) := (rfl)
@[push_cast] theorem retD_panic {rs : List ResultVar} {R : Ending → World → Prop} {e : Env} {ds : List Deferred} (ch : List PanicEntry) : retD P rs (tag R) (.panic ch) wb e ds L = ((ds = [] ∧ ∀ w, Sy wb L w → R (.panicked ch) w) ∨
    (∃ (g : FuncId) (cap : Array Value), ds = [{ target := .fn (.func g) cap, args := #[] }] ∧ entersB P g = true ∧
      ∀ w, Sy wb L w → CallsD P g cap (.panicking ch) w fun e' u' w' => e' = .returned (.tuple #[]) ∧ settle u' = .returning ∧ ∃ L', Sy wb L' w' ∧ ResL P wb L' e rs fun vs => ∀ w, Sy wb L' w → R (.returned (tup vs)) w)) := (rfl)
/-- A function with one deferred closure. -/
theorem enterD {f : FuncId} {fn : Func} {code : Code} {args : List Value} {w : World} {R : Ending → World → Prop} (hf : P.funcs[f]? = some fn) (hb : fn.body = some code) {rs : List ResultVar} {n : Nat} (hn : fn.ntmps = n) (hrs : fn.results.toList = rs) (hok : okCode n code = true) (hsz : args.length ≤ n)
    (hL : Sy wb L w) (h : VT ⟨P, n, none⟩ (tag code) (tag (retD P rs (tag R))) wb (env0 args) [] L) : Calls P f args.toArray w R := by
  subst hn
  refine calls_of_wp_defers hf hb ((wpIn_wide (n := 0)).1 (wpIn_mono (V_sound (c := ⟨P, fn.ntmps, none⟩) code _ wb _ [] L hok h { tmps := args.toArray ++ Array.replicate (fn.ntmps - args.toArray.size) undef, defers := [] } w (rep0 hsz) hL) ?_))
  have hret : ∀ (a : Act) (w' : World) (wb' : World) (e' : Env) (ds' : List Deferred) (L' : Own), Rep fn.ntmps a e' ds' → Sy wb' L' w' → retD P rs (tag R) .ret wb' e' ds' L' → Leaves P fn a.tmps R a.defers .returning w' := by
    intro a w' wb' e' ds' L' hr' hw' hq
    have hr0 : Rep fn.ntmps { tmps := a.tmps, defers := [] } e' [] := ⟨hr'.size, hr'.get, rfl⟩
    rcases hq with ⟨hd, hq⟩ | ⟨g, cap, hd, hg, hq⟩
    · rw [hr'.defers, hd]
      obtain ⟨vs, hk, hrun⟩ := results_run (fn := fn) hr0 hw' (by rw [hrs]; exact hq)
      exact ⟨_, hrun, hk w' hw'⟩
    · rw [hr'.defers, hd]
      refine leaves_cons (f := g) (args := cap) (by simp) (by simpa [invoke] using enters_run hg cap w') ((hq w' hw').mono ?_)
      rintro e'' u' w'' ⟨rfl, rfl, L'', hs, hq2⟩
      obtain ⟨vs, hk, hrun⟩ := results_run (fn := fn) hr0 hs (by rw [hrs]; exact hq2)
      exact ⟨_, hrun, hk w'' hs⟩
  rintro x a w' ⟨wb', e', ds', L', hr', hw', hq⟩
  cases x with
  | normal => exact hret a w' wb' e' ds' L' hr' hw' hq
  | ret => exact hret a w' wb' e' ds' L' hr' hw' hq
  | panic ch =>
    have hr0 : Rep fn.ntmps { tmps := a.tmps, defers := [] } e' [] := ⟨hr'.size, hr'.get, rfl⟩
    show Leaves P fn a.tmps R a.defers (.panicking ch) w'
    rcases hq with ⟨hd, hq⟩ | ⟨g, cap, hd, hg, hq⟩
    · rw [hr'.defers, hd]
      exact hq w' hw'
    · rw [hr'.defers, hd]
      refine leaves_cons (f := g) (args := cap) (by simp) (by simpa [invoke] using enters_run hg cap w') ((hq w' hw').mono ?_)
      rintro e'' u' w'' ⟨rfl, hu, L'', hs, hq2⟩
      show Leaves P fn a.tmps R [] (settle u') w''
      rw [hu]
      obtain ⟨vs, hk, hrun⟩ := results_run (fn := fn) hr0 hs (by rw [hrs]; exact hq2)
      exact ⟨_, hrun, hk w'' hs⟩
  | exit id => exact hq.elim
  | goto l => exact hq.elim
  | outgrown => exact hq.elim
end Go.K
namespace Go.Proofs.YtilejcofleeeiaaGreatDoor
open Go Go.K
set_option maxRecDepth 100000
set_option linter.unusedVariables false
set_option linter.unusedSimpArgs false
set_option maxHeartbeats 4000000
/-- A parser: its text, its place. -/
abbrev oPs (pb : Nat) (s : List UInt8) (p : Nat) : Nat × Obj := (pb, Obj.cells #[str s, i64 p] 74 (0, 0))
abbrev pPs (pb : Nat) : Value := .pointer (some ⟨pb, 0, none⟩)
/-- What a parser gives up with. -/
abbrev wrongE (e : Int) (q : Nat) : PanicEntry := { v := .iface 70 (.agg #[i64 e, i64 q]), recovered := false }
/-- How a parser's function ends. -/
def PVR {α : Type} (wb : World) (pb : Nat) (s : List UInt8) (M : Own) (r : PV α) (S : α → Value → Own → Prop) (e : Ending) (w' : World) : Prop :=
  match r with
  | .ok x q => ∃ (v : Value) (K : Own), e = .returned v ∧ q ≤ s.length ∧ S x v K ∧ (∀ b ∈ K, wb.heap.size ≤ b.1) ∧ Sy wb (oPs pb s q :: (K ++ M)) w'
  | .no er q => ∃ K : Own, e = .panicked [wrongE er q] ∧ (∀ b ∈ K, wb.heap.size ≤ b.1) ∧ Sy wb (K ++ M) w'
theorem PVR.leaf {α : Type} {wb w' : World} {pb : Nat} {s : List UInt8} {M : Own} {r : PV α} {S : α → Value → Own → Prop} {x : α} {q : Nat} (v : Value) (K : Own) (hr : r = .ok x q) (h2 : q ≤ s.length) (h3 : S x v K) (h4 : ∀ b ∈ K, wb.heap.size ≤ b.1) (h5 : Sy wb (oPs pb s q :: (K ++ M)) w') : PVR wb pb s M r S (.returned v) w' := by
  rw [hr]
  exact ⟨v, K, rfl, h2, h3, h4, h5⟩
theorem PVR.fall {α : Type} {wb w' : World} {pb : Nat} {s : List UInt8} {M : Own} {r : PV α} {S : α → Value → Own → Prop} {er : Int} {q : Nat} (K : Own) (hr : r = .no er q) (h4 : ∀ b ∈ K, wb.heap.size ≤ b.1) (h5 : Sy wb (K ++ M) w') : PVR wb pb s M r S (.panicked [wrongE er q]) w' := by
  rw [hr]
  exact ⟨K, rfl, h4, h5⟩
/-- A call of a parser's function. -/
theorem callX_pv {P : Program} {α : Type} {wb : World} {L M : Own} {Kp : KP} {pb : Nat} {s : List UInt8} {r : PV α} {S : α → Value → Own → Prop} {f : FuncId} {args : Array Value} {K1 : Value → World → Own → Prop} (h : ∀ w, Sy wb L w → Calls P f args w (PVR wb pb s M r S))
    (hk : ∀ x q v K, r = .ok x q → q ≤ s.length → S x v K → (∀ b ∈ K, wb.heap.size ≤ b.1) → K1 v wb (oPs pb s q :: (K ++ M)))
    (hp : ∀ er q K, r = .no er q → (∀ b ∈ K, wb.heap.size ≤ b.1) → Kp [wrongE er q] wb (K ++ M)) : CallX P f args wb L (tag K1) (tag Kp) := by
  cases r with
  | ok x q =>
    refine callX_pan (S := fun v L' => ∃ K, q ≤ s.length ∧ S x v K ∧ (∀ b ∈ K, wb.heap.size ≤ b.1) ∧ L' = oPs pb s q :: (K ++ M)) (SP := fun _ _ => False) (fun w hw => (h w hw).mono fun e w' hx => ?_) (fun v L' hx => ?_) (fun _ _ hx => hx.elim)
    · obtain ⟨v, K, rfl, h2, h3, h4, h5⟩ := hx
      exact .inl ⟨v, _, rfl, h5, K, h2, h3, h4, rfl⟩
    · obtain ⟨K, h2, h3, h4, rfl⟩ := hx
      exact hk x q v K rfl h2 h3 h4
  | no er q =>
    refine callX_pan (S := fun _ _ => False) (SP := fun ch L' => ∃ K : Own, ch = [wrongE er q] ∧ (∀ b ∈ K, wb.heap.size ≤ b.1) ∧ L' = K ++ M) (fun w hw => (h w hw).mono fun e w' hx => ?_) (fun _ _ hx => hx.elim) (fun ch L' hx => ?_)
    · obtain ⟨K, rfl, h1, h2⟩ := hx
      exact .inr ⟨_, _, rfl, h2, K, rfl, h1, rfl⟩
    · obtain ⟨K, rfl, h1, rfl⟩ := hx
      exact hp er q K rfl h1
theorem fail_walk (w : World) (q : Nat) : Calls Tryz.prog 33 #[i64 q] w (fun e w' => e = .panicked [wrongE 8 q] ∧ Sy w [] w') := by
  refine enterB (args := [i64 q]) Tryz.func33 rfl Tryz.ntmps33 (congrArg Array.toList Tryz.results33) (by kernel_rfl) (by simp) (Sy.refl w) ?_
  simp (disch := omega) only [push_cast, Nat.reduceEqDiff]
  refine ⟨_, _, rfl, ?_⟩
  simp (disch := omega) only [push_cast, Nat.reduceEqDiff]
  exact fun w' hw' => hw'
/-- A call that gives up. -/
theorem callX_fail {wb : World} {L : Own} {Kp : KP} {K1 : Value → World → Own → Prop} (q : Nat) (hp : Kp [wrongE 8 q] wb L) : CallX Tryz.prog 33 #[i64 q] wb L (tag K1) (tag Kp) :=
  callX_pan (S := fun _ _ => False) (SP := fun ch L' => ch = [wrongE 8 q] ∧ L' = L) (fun w' hw' => (fail_walk w' q).mono fun e w'' ⟨he, hs⟩ => .inr ⟨_, _, he, hw'.frame hs, rfl, rfl⟩) (fun _ _ h => h.elim) (fun ch L' ⟨h1, h2⟩ => by rw [h1, h2]; exact hp)
theorem getD_at {s : List UInt8} {i : Nat} (h : i < s.length) : s[i]? = some (s.getD i 0) := by
  rw [List.getD_eq_getElem?_getD, List.getElem?_eq_getElem h]
  rfl
theorem byte_walk (w : World) (pb : Nat) (s : List UInt8) (p : Nat) (hat : At w pb 0 [str s, i64 p]) :
    Calls Tryz.prog 102 #[pPs pb] w (Rets w (Is (.tuple #[.int .u8 (s.getD p 0).toNat, .bool (decide (p < s.length))]))) := by
  refine enterT (args := [pPs pb]) Tryz.func102 rfl Tryz.ntmps102 (congrArg Array.toList Tryz.results102) (by kernel_rfl) (by simp) (Sy.refl w) ?_
  have h1 : At w pb 1 [i64 p] := hat.sub 1 [i64 p] rfl
  have h0 : At w pb 0 [str s] := hat.sub 0 [str s] rfl
  simp (disch := omega) only [push_cast, Nat.reduceEqDiff]
  refine drawQT (by kernel_rfl) (by kernel_rfl) mixed (by kernel_rfl) ?_
  simp (disch := omega) only [push_cast, Nat.reduceEqDiff]
  refine ldF Shp.eq h1 (by simp) ?_
  simp (disch := omega) only [push_cast, Nat.reduceEqDiff]
  refine ldF Shp.eq h0 (by simp) ?_
  simp (disch := omega) only [push_cast, Nat.reduceEqDiff]
  rw [V_cond]
  simp (disch := omega) only [push_cast, Nat.reduceEqDiff]
  refine condX_d (fun hlt => ?_) (fun hge => ?_)
  · simp (disch := omega) only [push_cast, Nat.reduceEqDiff]
    refine drawQT (by kernel_rfl) (by kernel_rfl) mixed (by kernel_rfl) ?_
    simp (disch := omega) only [push_cast, Nat.reduceEqDiff]
    refine ldF Shp.eq h0 (by simp) ?_
    simp (disch := omega) only [push_cast, Nat.reduceEqDiff]
    refine ldF Shp.eq h1 (by simp) ?_
    simp (disch := omega) only [push_cast, Nat.reduceEqDiff]
    exact finIs (by simp) (by rw [decide_eq_true (by omega : p < s.length)])
  · simp (disch := omega) only [push_cast, Nat.reduceEqDiff]
    exact finIs (by simp) (by rw [decide_eq_false (by omega), List.getD_eq_getElem?_getD, List.getElem?_eq_none (by omega)]; rfl)
theorem must_walk (wb w : World) (pb : Nat) (s : List UInt8) (p : Nat) (M : Own) (c : UInt8) (ci : Int) (hc : ci = c.toNat) (hs : s.length ≤ 65536) (hp : p ≤ s.length) (hpb : wb.heap.size ≤ pb) (hw : Sy wb (oPs pb s p :: M) w) :
    Calls Tryz.prog 101 #[pPs pb, .int .u8 ci] w (PVR wb pb s M (mustV s [c] p) fun _ v K => v = .tuple #[] ∧ K = []) := by
  subst hc
  refine enterB (args := [pPs pb, .int .u8 (c.toNat : Int)]) Tryz.func101 rfl Tryz.ntmps101 (congrArg Array.toList Tryz.results101) (by kernel_rfl) (by simp) hw ?_
  simp (disch := omega) only [push_cast, Nat.reduceEqDiff]
  refine callV en_102 (callX_is (fun w' hw' => byte_walk w' pb s p (At.of_own hw' mem0 rfl)) ?_)
  simp (disch := omega) only [push_cast, Nat.reduceEqDiff]
  have no : ∀ (h : ¬ s[p]? = some c) (w' : World), Sy wb (oPs pb s p :: M) w' → PVR wb pb s M (mustV s [c] p) (fun _ v K => v = .tuple #[] ∧ K = []) (.panicked [wrongE 8 p]) w' := fun h w' hw' => by
    refine PVR.fall [oPs pb s p] ?_ (fun b hb => by rw [List.mem_singleton.1 hb]; exact hpb) hw'
    unfold mustV
    rw [if_neg]
    intro h2
    apply h
    rw [List.isPrefixOf_iff_prefix] at h2
    obtain ⟨x, hx⟩ := h2
    exact (drop_cons hx.symm).1
  refine guardX_f rfl (fun hlt => ?_) (fun hge => ?_)
  · have hlt : p < s.length := by omega
    simp (disch := omega) only [push_cast, Nat.reduceEqDiff]
    have hg : ((s.getD p 0).toNat : Int) = c.toNat ↔ s[p]? = some c := by
      rw [getD_at hlt]
      constructor
      · intro e
        rw [UInt8.toNat_inj.1 (by omega : (s.getD p 0).toNat = c.toNat)]
      · intro e
        rw [Option.some.inj e]
    rw [V_cond]
    simp (disch := omega) only [push_cast, Nat.reduceEqDiff]
    refine condX_d (fun hne => ?_) (fun he => ?_)
    · simp (disch := omega) only [push_cast, Nat.reduceEqDiff]
      refine ldOne Shp.eq mem0 rfl ?_
      simp (disch := omega) only [push_cast, Nat.reduceEqDiff]
      refine callV en_33 (callX_fail p ?_)
      simp (disch := omega) only [push_cast, Nat.reduceEqDiff]
      exact no (fun h => hne (hg.2 h))
    · have hsc : s[p]? = some c := hg.1 (Decidable.not_not.1 he)
      simp (disch := omega) only [push_cast, Nat.reduceEqDiff]
      refine ldOne Shp.eq mem0 rfl ?_
      simp (disch := omega) only [push_cast, Nat.reduceEqDiff]
      refine storeX 0 rfl Siz.eq rfl rfl (by simp [Value.oneCell']) (by simp) ?_
      simp (disch := omega) only [push_cast, Nat.reduceEqDiff]
      refine fun w' hw' => PVR.leaf (.tuple #[]) [] (x := ()) (q := p + 1) ?_ (by omega) ⟨rfl, rfl⟩ (by simp) (by rw [oPs, Int.natCast_add]; simpa [splice] using hw')
      exact mustV_yes (t := [c]) (cons_drop hsc)
  · have hlt : ¬ p < s.length := by omega
    simp (disch := omega) only [push_cast, Nat.reduceEqDiff]
    rw [V_cond]
    simp (disch := omega) only [push_cast, Nat.reduceEqDiff]
    refine ldOne Shp.eq mem0 rfl ?_
    simp (disch := omega) only [push_cast, Nat.reduceEqDiff]
    refine callV en_33 (callX_fail p ?_)
    simp (disch := omega) only [push_cast, Nat.reduceEqDiff]
    exact no (by rw [List.getElem?_eq_none (by omega)]; simp)
abbrev smallI (c : Int) : Prop := 48 ≤ c ∧ c ≤ 57 ∨ 97 ≤ c ∧ c ≤ 122 ∨ c = 45
theorem small_int (w : World) (c : Int) : Calls Tryz.prog 67 #[.int .u8 c] w (Rets w (Is (.bool (decide (smallI c))))) := by
  refine enterT (args := [.int .u8 c]) Tryz.func67 rfl Tryz.ntmps67 (congrArg Array.toList Tryz.results67) (by kernel_rfl) (by simp) (Sy.refl w) ?_
  simp (disch := omega) only [push_cast, Nat.reduceEqDiff]
  repeat' (first | ((first | refine guardX_t rfl (fun h => ?_) (fun h => ?_) | refine guardX_f rfl (fun h => ?_) (fun h => ?_) | refine condX_d (fun h => ?_) (fun h => ?_) | (refine guardX_bt rfl (fun h => ?_) (fun h => ?_) <;> (try subst h)) | (refine guardX_bf rfl (fun h => ?_) (fun h => ?_) <;> (try subst h)) | (refine condX_b (fun h => ?_) (fun h => ?_) <;> (try subst h)) | refine ldOne Shp.eq (by (first | exact mem0 | exact mem1 | exact mem2 | exact mem3 | exact mem4 | exact mem5)) rfl ?_ | refine loadX_agg Shp.eq (by (first | exact mem0 | exact mem1 | exact mem2 | exact mem3 | exact mem4 | exact mem5)) rfl rfl ?_ | refine newI (fun b hb hn => ?_) | refine storeX 0 rfl Siz.eq rfl rfl (by simp [Value.oneCell']) (by simp) ?_ | refine storeX 1 rfl Siz.eq rfl rfl (by simp [Value.oneCell']) (by simp) ?_ | refine storeX 2 rfl Siz.eq rfl rfl (by simp [Value.oneCell']) (by simp) ?_ | refine storeX 3 rfl Siz.eq rfl rfl (by simp [Value.oneCell']) (by simp) ?_ | refine storeX 4 rfl Siz.eq rfl rfl (by simp [Value.oneCell']) (by simp) ?_ | refine storeX 5 rfl Siz.eq rfl rfl (by simp [Value.oneCell']) (by simp) ?_ | refine storeX 6 rfl Siz.eq rfl rfl (by simp [Value.oneCell']) (by simp) ?_) <;> simp (disch := omega) only [push_cast, Nat.reduceEqDiff]) | (first | rw [V_cond] | rw [V_block]) <;> (try simp (disch := omega) only [push_cast, Nat.reduceEqDiff]))
  all_goals (refine fun w' hw => ⟨_, rfl, hw, ?_⟩; first | exact is_t (by omega) | exact is_f (by omega) | exact is_d (by omega))
theorem letter_int (w : World) (c : Int) : Calls Tryz.prog 100 #[.int .u8 c] w (Rets w (Is (.bool (decide (letterP c))))) := by
  refine enterT (args := [.int .u8 c]) Tryz.func100 rfl Tryz.ntmps100 (congrArg Array.toList Tryz.results100) (by kernel_rfl) (by simp) (Sy.refl w) ?_
  simp (disch := omega) only [push_cast, Nat.reduceEqDiff]
  refine callV en_67 (callX_is (fun w' _ => small_int w' c) ?_)
  simp (disch := omega) only [push_cast, Nat.reduceEqDiff]
  repeat' (first | ((first | refine guardX_t rfl (fun h => ?_) (fun h => ?_) | refine guardX_f rfl (fun h => ?_) (fun h => ?_) | refine condX_d (fun h => ?_) (fun h => ?_) | (refine guardX_bt rfl (fun h => ?_) (fun h => ?_) <;> (try subst h)) | (refine guardX_bf rfl (fun h => ?_) (fun h => ?_) <;> (try subst h)) | (refine condX_b (fun h => ?_) (fun h => ?_) <;> (try subst h)) | refine ldOne Shp.eq (by (first | exact mem0 | exact mem1 | exact mem2 | exact mem3 | exact mem4 | exact mem5)) rfl ?_ | refine loadX_agg Shp.eq (by (first | exact mem0 | exact mem1 | exact mem2 | exact mem3 | exact mem4 | exact mem5)) rfl rfl ?_ | refine newI (fun b hb hn => ?_) | refine storeX 0 rfl Siz.eq rfl rfl (by simp [Value.oneCell']) (by simp) ?_ | refine storeX 1 rfl Siz.eq rfl rfl (by simp [Value.oneCell']) (by simp) ?_ | refine storeX 2 rfl Siz.eq rfl rfl (by simp [Value.oneCell']) (by simp) ?_ | refine storeX 3 rfl Siz.eq rfl rfl (by simp [Value.oneCell']) (by simp) ?_ | refine storeX 4 rfl Siz.eq rfl rfl (by simp [Value.oneCell']) (by simp) ?_ | refine storeX 5 rfl Siz.eq rfl rfl (by simp [Value.oneCell']) (by simp) ?_ | refine storeX 6 rfl Siz.eq rfl rfl (by simp [Value.oneCell']) (by simp) ?_) <;> simp (disch := omega) only [push_cast, Nat.reduceEqDiff]) | (first | rw [V_cond] | rw [V_block]) <;> (try simp (disch := omega) only [push_cast, Nat.reduceEqDiff]))
  all_goals (refine fun w' hw => ⟨_, rfl, hw, ?_⟩; first | exact is_t (by omega) | exact is_f (by omega) | exact is_d (by omega))
theorem small_walk (w : World) (c : UInt8) : Calls Tryz.prog 67 #[.int .u8 c.toNat] w (Rets w (Is (.bool (smallB c)))) := by
  have he : smallB c = decide (smallI c.toNat) := by unfold smallB; rw [decide_eq_decide]; omega
  rw [he]
  exact small_int w _
theorem letter_walk2 (w : World) (c : UInt8) : Calls Tryz.prog 100 #[.int .u8 c.toNat] w (Rets w (Is (.bool (nameB c)))) := letter_int w _
/-- The digits of base sixteen. -/
def hexD : List UInt8 := [48, 49, 50, 51, 52, 53, 54, 55, 56, 57, 97, 98, 99, 100, 101, 102]
theorem hex_index (c : UInt8) : Lib.indexByte hexD c = match digV c with | some d => (d : Int) | none => -1 := by
  have : ∀ k : Fin 256, Lib.indexByte hexD (UInt8.ofNat k.val) = match digV (UInt8.ofNat k.val) with | some d => (d : Int) | none => -1 := by decide +kernel
  have h := this ⟨c.toNat, c.toNat_lt⟩
  simpa using h
theorem digV_lt {c : UInt8} {n : Nat} (h : digV c = some n) : n < 16 := (digV_some h).1
theorem digit_fn (w : World) (c : UInt8) : Calls Tryz.prog 127 #[.int .u8 c.toNat] w (Rets w (Is (.tuple #[.int .u8 (match digV c with | some d => (d : Int) | none => 255), .bool (digV c).isSome]))) := by
  refine enterT (args := [.int .u8 c.toNat]) Tryz.func127 rfl Tryz.ntmps127 (congrArg Array.toList Tryz.results127) (by kernel_rfl) (by simp) (Sy.refl w) ?_
  simp (disch := omega) only [push_cast, Nat.reduceEqDiff]
  refine callV en_150 (callX_is (fun w' _ => indexByte_walk w' hexD c) ?_)
  rw [hex_index]
  cases h : digV c with
  | none =>
    simp (disch := omega) only [push_cast, Nat.reduceEqDiff]
    exact finIs (by simp) rfl
  | some d =>
    have hd := digV_lt h
    simp (disch := omega) only [push_cast, Nat.reduceEqDiff]
    exact finIs (by simp) (by rw [decide_eq_true (by omega)]; rfl)
end Go.Proofs.YtilejcofleeeiaaGreatDoor
