/- YtdmdgkpjjpijdaaDoor: the walk calculus: calls that may panic; functions with one deferred closure. -/
import Derived.Test.YtdmdgkpjjpijdaaDoorKs
import Derived.Defers
import Derived.Recover
import Derived.Test.YtdmdgkpjjpijdaaDoorW2
import Derived.Lib.AtoiAll
import Derived.Lib.ItoaNum
import Derived.Test.YtdmdgkpjjpijdaaDoorW116
namespace Go.K
open Go
variable {P : Program} {wb : World} {L : Own} {Kp : KP}
/-- A call that returns or panics. -/
theorem callX_pan {f : FuncId} {args : Array Value} {S : Value → Own → Prop} {SP : List PanicEntry → Own → Prop} {K : Value → World → Own → Prop} (h : ∀ w, Sy wb L w → Calls P f args w (fun e w' => (∃ v L', e = .returned v ∧ Sy wb L' w' ∧ S v L') ∨ (∃ ch L', e = .panicked ch ∧ Sy wb L' w' ∧ SP ch L')))
    (hk : ∀ v L', S v L' → K v wb L') (hp : ∀ ch L', SP ch L' → Kp ch wb L') : CallX P f args wb L (tag K) (tag Kp) := fun w hw =>
  (h w hw).mono fun e w' hx => by
    rcases hx with ⟨v, L', rfl, hs, hv⟩ | ⟨ch, L', rfl, hs, hv⟩
    · exact ⟨wb, L', hs, hk v L' hv⟩
    · exact ⟨wb, L', hs, hp ch L' hv⟩
/-- What a function's end asks, where one closure may have been deferred. -/
def retD (P : Program) (rs : List ResultVar) {R : Ending → World → Prop} (_ : Tag R) : Post
  | .ret, wb, e, ds, L | .normal, wb, e, ds, L =>
    (ds = [] ∧ ResL P wb L e rs fun vs => ∀ w, Sy wb L w → R (.returned (tup vs)) w) ∨
    (∃ (g : FuncId) (cap : Array Value), ds = [{ target := .fn (.func g) cap, args := #[] }] ∧ entersB P g = true ∧
      ∀ w, Sy wb L w → CallsD P g cap .returning w fun e' u' w' => e' = .returned (.tuple #[]) ∧ u' = .returning ∧ ∃ L', Sy wb L' w' ∧ ResL P wb L' e rs fun vs => ∀ w, Sy wb L' w → R (.returned (tup vs)) w)
  | .panic ch, wb, e, ds, L =>
    (ds = [] ∧ ∀ w, Sy wb L w → R (.panicked ch) w) ∨
    (∃ (g : FuncId) (cap : Array Value), ds = [{ target := .fn (.func g) cap, args := #[] }] ∧ entersB P g = true ∧
      ∀ w, Sy wb L w → CallsD P g cap (.panicking ch) w fun e' u' w' => e' = .returned (.tuple #[]) ∧ settle u' = .returning ∧ ∃ L', Sy wb L' w' ∧ ResL P wb L' e rs fun vs => ∀ w, Sy wb L' w → R (.returned (tup vs)) w)
  | _, _, _, _, _ => False
@[push_cast] theorem retD_ret {rs : List ResultVar} {R : Ending → World → Prop} {e : Env} {ds : List Deferred} : retD P rs (tag R) .ret wb e ds L = ((ds = [] ∧ ResL P wb L e rs fun vs => ∀ w, Sy wb L w → R (.returned (tup vs)) w) ∨
    (∃ (g : FuncId) (cap : Array Value), ds = [{ target := .fn (.func g) cap, args := #[] }] ∧ entersB P g = true ∧
      ∀ w, Sy wb L w → CallsD P g cap .returning w fun e' u' w' => e' = .returned (.tuple #[]) ∧ u' = .returning ∧ ∃ L', Sy wb L' w' ∧ ResL P wb L' e rs fun vs => ∀ w, Sy wb L' w → R (.returned (tup vs)) w)) := (rfl)
@[push_cast] theorem retD_normal {rs : List ResultVar} {R : Ending → World → Prop} {e : Env} {ds : List Deferred} : retD P rs (tag R) .normal wb e ds L = ((ds = [] ∧ ResL P wb L e rs fun vs => ∀ w, Sy wb L w → R (.returned (tup vs)) w) ∨
    (∃ (g : FuncId) (cap : Array Value), ds = [{ target := .fn (.func g) cap, args := #[] }] ∧ entersB P g = true ∧
      ∀ w, Sy wb L w → CallsD P g cap .returning w fun e' u' w' => e' = .returned (.tuple #[]) ∧ u' = .returning ∧ ∃ L', Sy wb L' w' ∧ ResL P wb L' e rs fun vs => ∀ w, Sy wb L' w → R (.returned (tup vs)) w)) := (rfl)
@[push_cast] theorem retD_panic {rs : List ResultVar} {R : Ending → World → Prop} {e : Env} {ds : List Deferred} (ch : List PanicEntry) : retD P rs (tag R) (.panic ch) wb e ds L = ((ds = [] ∧ ∀ w, Sy wb L w → R (.panicked ch) w) ∨
    (∃ (g : FuncId) (cap : Array Value), ds = [{ target := .fn (.func g) cap, args := #[] }] ∧ entersB P g = true ∧
      ∀ w, Sy wb L w → CallsD P g cap (.panicking ch) w fun e' u' w' => e' = .returned (.tuple #[]) ∧ settle u' = .returning ∧ ∃ L', Sy wb L' w' ∧ ResL P wb L' e rs fun vs => ∀ w, Sy wb L' w → R (.returned (tup vs)) w)) := (rfl)
/-- A function with one deferred closure. -/
theorem enterD {f : FuncId} {fn : Func} {code : Code} {args : List Value} {w : World} {R : Ending → World → Prop} (hf : P.funcs[f]? = some fn) (hb : fn.body = some code) {rs : List ResultVar} {n : Nat} (hn : fn.ntmps = n) (hrs : fn.results.toList = rs) (hok : okCode n code = true) (hsz : args.length ≤ n)
    (hL : Sy wb L w) (h : VT ⟨P, n, none⟩ (tag code) (tag (retD P rs (tag R))) wb (env0 args) [] L) : Calls P f args.toArray w R := by
  subst hn
  refine calls_of_wp_defers hf hb ((wpIn_wide (n := 0)).1 (wpIn_mono (V_sound (c := ⟨P, fn.ntmps, none⟩) code _ wb _ [] L hok h { tmps := args.toArray ++ Array.replicate (fn.ntmps - args.toArray.size) undef, defers := [] } w (rep0 hsz) hL) ?_))
  have hret : ∀ (a : Act) (w' : World) (wb' : World) (e' : Env) (ds' : List Deferred) (L' : Own), Rep fn.ntmps a e' ds' → Sy wb' L' w' → retD P rs (tag R) .ret wb' e' ds' L' → Leaves P fn a.tmps R a.defers .returning w' := by
    intro a w' wb' e' ds' L' hr' hw' hq
    have hr0 : Rep fn.ntmps { tmps := a.tmps, defers := [] } e' [] := ⟨hr'.size, hr'.get, rfl⟩
    rcases hq with ⟨hd, hq⟩ | ⟨g, cap, hd, hg, hq⟩
    · rw [hr'.defers, hd]
      obtain ⟨vs, hk, hrun⟩ := results_run (fn := fn) hr0 hw' (by rw [hrs]; exact hq)
      exact ⟨_, hrun, hk w' hw'⟩
    · rw [hr'.defers, hd]
      refine leaves_cons (f := g) (args := cap) (by simp) (by simpa [invoke] using enters_run hg cap w') ((hq w' hw').mono ?_)
      rintro e'' u' w'' ⟨rfl, rfl, L'', hs, hq2⟩
      obtain ⟨vs, hk, hrun⟩ := results_run (fn := fn) hr0 hs (by rw [hrs]; exact hq2)
      exact ⟨_, hrun, hk w'' hs⟩
  rintro x a w' ⟨wb', e', ds', L', hr', hw', hq⟩
  cases x with
  | normal => exact hret a w' wb' e' ds' L' hr' hw' hq
  | ret => exact hret a w' wb' e' ds' L' hr' hw' hq
  | panic ch =>
    have hr0 : Rep fn.ntmps { tmps := a.tmps, defers := [] } e' [] := ⟨hr'.size, hr'.get, rfl⟩
    show Leaves P fn a.tmps R a.defers (.panicking ch) w'
    rcases hq with ⟨hd, hq⟩ | ⟨g, cap, hd, hg, hq⟩
    · rw [hr'.defers, hd]
      exact hq w' hw'
    · rw [hr'.defers, hd]
      refine leaves_cons (f := g) (args := cap) (by simp) (by simpa [invoke] using enters_run hg cap w') ((hq w' hw').mono ?_)
      rintro e'' u' w'' ⟨rfl, hu, L'', hs, hq2⟩
      show Leaves P fn a.tmps R [] (settle u') w''
      rw [hu]
      obtain ⟨vs, hk, hrun⟩ := results_run (fn := fn) hr0 hs (by rw [hrs]; exact hq2)
      exact ⟨_, hrun, hk w'' hs⟩
  | exit id => exact hq.elim
  | goto l => exact hq.elim
  | outgrown => exact hq.elim
end Go.K
/- YtdmdgkpjjpijdaaDoor: the walk calculus: turns of lists of blocks. -/
namespace Go.K
open Go
/-- Two lists of blocks are a turn of each other, if all sums over them are alike. -/
def wt (f : Nat × Obj → Nat) : Own → Nat
  | [] => 0
  | x :: l => f x + wt f l
theorem wt_nil (f : Nat × Obj → Nat) : wt f [] = 0 := rfl
theorem wt_cons (f : Nat × Obj → Nat) (x : Nat × Obj) (l : Own) : wt f (x :: l) = f x + wt f l := rfl
theorem wt_append (f : Nat × Obj → Nat) : ∀ l m : Own, wt f (l ++ m) = wt f l + wt f m
  | [], m => by rw [wt_nil, Nat.zero_add]; rfl
  | x :: l, m => by rw [List.cons_append, wt_cons, wt_cons, wt_append f l m, Nat.add_assoc]
open Classical in
theorem wt_count (a : Nat × Obj) : ∀ l : Own, wt (fun x => if x = a then 1 else 0) l = l.count a
  | [] => by simp [wt_nil]
  | x :: l => by rw [wt_cons, wt_count a l, List.count_cons, Nat.add_comm]; simp
open Classical in
theorem permC {l m : Own} (h : ∀ f : Nat × Obj → Nat, wt f l = wt f m) : l.Perm m := List.perm_iff_count.2 fun a => by rw [← wt_count, ← wt_count, h]
end Go.K
/- YtdmdgkpjjpijdaaDoor: plain: texts that are read: blanks, words, numbers, fields, quoted texts, notes, schemas. -/
namespace Go.Proofs.YtdmdgkpjjpijdaaDoor
open Go Go.K
set_option maxRecDepth 100000
set_option linter.unusedVariables false
set_option linter.unusedSimpArgs false
/-- How a reading ends: where something can't stand; or with what was read, and the place of what comes next. -/
inductive PR (α : Type) where
  | no (q : Nat)
  | ok (x : α) (q : Nat)
def PR.and {α β : Type} : PR α → (α → Nat → PR β) → PR β
  | .no q, _ => .no q
  | .ok x q, f => f x q
theorem PR.and_no {α β : Type} (q : Nat) (f : α → Nat → PR β) : PR.and (.no q) f = .no q := rfl
theorem PR.and_ok {α β : Type} (x : α) (q : Nat) (f : α → Nat → PR β) : PR.and (.ok x q) f = f x q := rfl
theorem PR.and_and {α β γ : Type} (r : PR α) (f : α → Nat → PR β) (g : β → Nat → PR γ) : (r.and f).and g = r.and fun x q => (f x q).and g := by cases r <;> rfl
theorem PR.and_eq_ok {α β : Type} {r : PR α} {f : α → Nat → PR β} {y : β} {q : Nat} (h : r.and f = .ok y q) : ∃ x p, r = .ok x p ∧ f x p = .ok y q := by
  cases r with
  | no p => cases h
  | ok x p => exact ⟨x, p, rfl, h⟩
/-- Past all bytes of a kind. -/
def runP (f : UInt8 → Bool) (s : List UInt8) (p : Nat) : Nat := p + ((s.drop p).takeWhile f).length
theorem runP_step {f : UInt8 → Bool} {s : List UInt8} {p : Nat} {c : UInt8} (h : s[p]? = some c) (hf : f c = true) : runP f s p = runP f s (p + 1) := by
  obtain ⟨h1, rfl⟩ := List.getElem?_eq_some_iff.1 h
  unfold runP
  rw [List.drop_eq_getElem_cons h1, List.takeWhile_cons, if_pos hf, List.length_cons]
  omega
theorem runP_stop {f : UInt8 → Bool} {s : List UInt8} {p : Nat} {c : UInt8} (h : s[p]? = some c) (hf : f c = false) : runP f s p = p := by
  obtain ⟨h1, rfl⟩ := List.getElem?_eq_some_iff.1 h
  unfold runP
  rw [List.drop_eq_getElem_cons h1, List.takeWhile_cons, if_neg (by rw [hf]; decide)]
  rfl
theorem runP_end {f : UInt8 → Bool} {s : List UInt8} {p : Nat} (h : s.length ≤ p) : runP f s p = p := by
  unfold runP
  rw [List.drop_of_length_le h]
  rfl
theorem runP_ge (f : UInt8 → Bool) (s : List UInt8) (p : Nat) : p ≤ runP f s p := Nat.le_add_right _ _
theorem runP_le {f : UInt8 → Bool} {s : List UInt8} {p : Nat} (h : p ≤ s.length) : runP f s p ≤ s.length := by
  have h1 := (List.takeWhile_sublist (p := f) (l := s.drop p)).length_le
  rw [List.length_drop] at h1
  unfold runP
  omega
/-- What stands at its end is none of them. -/
theorem runP_out {f : UInt8 → Bool} {s : List UInt8} : ∀ (n p : Nat), s.length - p ≤ n → ∀ c, s[runP f s p]? = some c → f c = false
  | 0, p, hn, c, h => by
    rw [runP_end (by omega)] at h
    have := (List.getElem?_eq_some_iff.1 h).1
    omega
  | n + 1, p, hn, c, h => by
    rcases Nat.lt_or_ge p s.length with hp | hp
    · have hd : s[p]? = some s[p] := List.getElem?_eq_getElem hp
      cases hf : f s[p] with
      | true =>
        rw [runP_step hd hf] at h
        exact runP_out n (p + 1) (by omega) c h
      | false =>
        rw [runP_stop hd hf] at h
        rw [hd] at h
        cases h
        exact hf
    · rw [runP_end hp] at h
      have := (List.getElem?_eq_some_iff.1 h).1
      omega
theorem runP_idem (f : UInt8 → Bool) (s : List UInt8) (p : Nat) : runP f s (runP f s p) = runP f s p := by
  rcases Nat.lt_or_ge (runP f s p) s.length with h | h
  · have hd : s[runP f s p]? = some s[runP f s p] := List.getElem?_eq_getElem h
    exact runP_stop hd (runP_out _ p (Nat.le_refl _) _ hd)
  · exact runP_end h
def blankB (c : UInt8) : Bool := decide (c = 32 ∨ c = 9 ∨ c = 10)
def letB (c : UInt8) : Bool := decide (letterP c.toNat)
/-- The place behind the blanks; behind the letters. -/
abbrev blP (s : List UInt8) (p : Nat) : Nat := runP blankB s p
abbrev weP (s : List UInt8) (p : Nat) : Nat := runP letB s p
theorem let_blank {c : UInt8} (h : letB c = true) : blankB c = false := by
  unfold letB at h
  unfold blankB
  have h1 := of_decide_eq_true h
  refine decide_eq_false ?_
  rintro (rfl | rfl | rfl) <;> revert h1 <;> decide
/-- A word that stands here, and the place of what comes next. -/
def pWord (s : List UInt8) (q : Nat) : PR (List UInt8) := if weP s q = q then .no q else .ok ((s.take (weP s q)).drop q) (blP s (weP s q))
/-- A sign that stands here. -/
def pSign (s : List UInt8) (c : UInt8) (q : Nat) : Option Nat := if s[q]? = some c then some (blP s (q + 1)) else none
def pMust (s : List UInt8) (c : UInt8) (q : Nat) : PR Unit := match pSign s c q with
  | some r => .ok () r
  | none => .no q
/-- Numbers: of at most four digits, no 0 ahead. -/
def digB (c : UInt8) : Bool := decide (48 ≤ c.toNat ∧ c.toNat ≤ 57)
def numOK (w : List UInt8) : Bool := decide (w.length ≤ 4) && w.all digB && (decide (w.length = 1) || decide (w.head? ≠ some 48))
def numOf (w : List UInt8) : Nat := w.foldl (fun n c => 10 * n + (c.toNat - 48)) 0
def pNum (s : List UInt8) (q : Nat) : PR Nat := (pWord s q).and fun w r => if numOK w then .ok (numOf w) r else .no q
/-- The kind of a word; 0: it is none. -/
def kindW (w : List UInt8) : Nat := (((List.range 21).drop 1).find? fun k => saysWord k == w).getD 0
def pKind (s : List UInt8) (lets : Nat → Bool) (q : Nat) : PR Nat := (pWord s q).and fun w r => if kindW w ≠ 0 ∧ lets (kindW w) = true then .ok (kindW w) r else .no q
/-- Where a field's name stands, and its children's. -/
inductive Sp where
  | mk (at_ : Nat) (kids : List Sp)
def Sp.at_ : Sp → Nat
  | .mk a _ => a
def Sp.kids : Sp → List Sp
  | .mk _ l => l
abbrev Fz : Type := Fld × Sp
/-- Fields with commas between. -/
def pMany (s : List UInt8) (F : Nat → PR Fz) : Nat → Nat → PR (List Fz)
  | 0, q => .no q
  | m + 1, q => (F q).and fun x r => match pSign s 44 r with
    | none => .ok [x] r
    | some r2 => (pMany s F m r2).and fun l r3 => .ok (x :: l) r3
structure Ty where
  k : Nat
  wd : Nat
  id : Nat
  ix : Nat
  l : List Fz
def one (F : Nat → PR Fz) (q : Nat) : PR (List Fz) := (F q).and fun x r => .ok [x] r
/-- What stands in the brackets of a type. -/
def pInner (s : List UInt8) (F : Nat → PR Fz) (k : Nat) (q : Nat) : PR Ty :=
  if k = 14 then (pNum s q).and fun n r => .ok ⟨k, n, 0, 0, []⟩ r
  else if k = 16 then (pNum s q).and fun n r => (pMust s 44 r).and fun _ r => (one F r).and fun l r => .ok ⟨k, n, 0, 0, l⟩ r
  else if k = 19 then (pNum s q).and fun n r => (pMust s 44 r).and fun _ r => (pKind s saysIdx r).and fun i r => (pMust s 44 r).and fun _ r => (one F r).and fun l r => .ok ⟨k, 0, n, i, l⟩ r
  else if k = 18 then (pMany s F (s.length + 1) q).and fun l r => .ok ⟨k, 0, 0, 0, l⟩ r
  else if k = 17 then if s[q]? = some 41 then .ok ⟨k, 0, 0, 0, []⟩ q else (pMany s F (s.length + 1) q).and fun l r => .ok ⟨k, 0, 0, 0, l⟩ r
  else (one F q).and fun l r => .ok ⟨k, 0, 0, 0, l⟩ r
def pTyped (s : List UInt8) (F : Nat → PR Fz) (q : Nat) : PR Ty :=
  (pKind s (fun _ => true) q).and fun k r => if k < 14 then .ok ⟨k, 0, 0, 0, []⟩ r
    else (pMust s 40 r).and fun _ r => (pInner s F k r).and fun t r => (pMust s 41 r).and fun _ r => .ok t r
def mkF (nm : List UInt8) (nl : Bool) (t : Ty) (q : Nat) : Fz := (.mk nm nl t.k t.wd t.id t.ix (t.l.map (·.1)), .mk q (t.l.map (·.2)))
def pField (s : List UInt8) : Nat → Nat → PR Fz
  | 0, q => .no q
  | d + 1, q => (pWord s q).and fun nm r => (pTyped s (pField s d) r).and fun t r => match pSign s 63 r with
    | some r2 => .ok (mkF nm true t q) r2
    | none => .ok (mkF nm false t q) r
/-- What a hex digit is worth. -/
def hexV (c : UInt8) : Option Nat := ([48, 49, 50, 51, 52, 53, 54, 55, 56, 57, 97, 98, 99, 100, 101, 102] : List UInt8).findIdx? (· == c)
/-- The byte of the escape that stands here, and its length; or the place where something can't stand. -/
def pEsc (s : List UInt8) (p : Nat) : PR UInt8 := match s[p + 1]? with
  | none => .no s.length
  | some c => if c = 34 ∨ c = 92 then .ok c (p + 2) else if c ≠ 120 then .no p else match s[p + 2]? with
    | none => .no s.length
    | some a => match hexV a with
      | none => .no p
      | some x => match s[p + 3]? with
        | none => .no s.length
        | some b => match hexV b with
          | none => .no p
          | some y => .ok (UInt8.ofNat (16 * x + y)) (p + 4)
/-- The rest of a quoted text: up to its end. -/
def pRest (s : List UInt8) : Nat → Nat → PR (List UInt8)
  | 0, p => .no s.length
  | m + 1, p => match s[p]? with
    | none => .no s.length
    | some c => if c = 34 then .ok [] (p + 1) else if c = 92 then (pEsc s p).and fun x r => (pRest s m r).and fun l r2 => .ok (x :: l) r2
      else if 32 ≤ c.toNat ∧ c.toNat ≤ 126 then (pRest s m (p + 1)).and fun l r2 => .ok (c :: l) r2 else .no p
def pQuote (s : List UInt8) (q : Nat) : PR (List UInt8) := if s[q]? = some 34 then (pRest s (s.length + 1) (q + 1)).and fun t r => .ok t (blP s r) else .no q
abbrev NoteQ : Type := List UInt8 × List UInt8
def pNotes (s : List UInt8) : Nat → Nat → PR (List NoteQ)
  | 0, q => .no q
  | m + 1, q => (pQuote s q).and fun k r => (pQuote s r).and fun t r => match pSign s 44 r with
    | none => .ok [(k, t)] r
    | some r2 => (pNotes s m r2).and fun l r3 => .ok ((k, t) :: l) r3
/-- The end must be there. -/
def pEnd {α : Type} (s : List UInt8) (x : α) (q : Nat) : PR α := if q < s.length then .no q else .ok x q
def pFields (s : List UInt8) (q : Nat) : PR (List Fz) := pMany s (pField s (s.length + 1)) (s.length + 1) q
def pHead (s : List UInt8) (q : Nat) : PR (List Fz) := if q < s.length ∧ s[q]? ≠ some 124 then pFields s q else .ok [] q
def pTail (s : List UInt8) (q : Nat) : PR (List NoteQ) := match pSign s 124 q with
  | some r => pNotes s (s.length + 1) r
  | none => .ok [] q
def pSchema (s : List UInt8) : PR (List Fz × List NoteQ) := (pHead s (blP s 0)).and fun l q => (pTail s q).and fun n q => pEnd s (l, n) q
def pOne (s : List UInt8) : PR Fz := (pField s (s.length + 1) (blP s 0)).and fun x q => pEnd s x q
/-! Places go on, and stay within the text. -/
theorem pSign_le {s : List UInt8} {c : UInt8} {q r : Nat} (h : pSign s c q = some r) : q < r ∧ r ≤ s.length ∧ blP s r = r := by
  unfold pSign at h
  split at h
  · rename_i h1
    cases h
    have h2 := (List.getElem?_eq_some_iff.1 h1).1
    exact ⟨Nat.lt_of_lt_of_le (Nat.lt_succ_self q) (runP_ge _ _ _), runP_le (by omega), runP_idem _ _ _⟩
  · cases h
theorem pMust_ok {s : List UInt8} {c : UInt8} {q r : Nat} {u : Unit} (h : pMust s c q = .ok u r) : pSign s c q = some r := by
  unfold pMust at h
  split at h
  · rename_i h1
    cases h
    exact h1
  · cases h
theorem pWord_le {s : List UInt8} {q r : Nat} {w : List UInt8} (hq : q ≤ s.length) (h : pWord s q = .ok w r) : q < r ∧ r ≤ s.length ∧ blP s r = r := by
  unfold pWord at h
  split at h
  · cases h
  · rename_i h1
    cases h
    have h2 : q ≤ weP s q := runP_ge letB s q
    have h3 : weP s q ≤ s.length := runP_le hq
    exact ⟨Nat.lt_of_lt_of_le (by omega) (runP_ge _ _ _), runP_le h3, runP_idem _ _ _⟩
theorem pNum_le {s : List UInt8} {q r n : Nat} (hq : q ≤ s.length) (h : pNum s q = .ok n r) : q < r ∧ r ≤ s.length ∧ blP s r = r := by
  obtain ⟨w, p, h1, h2⟩ := PR.and_eq_ok h
  split at h2
  · cases h2
    exact pWord_le hq h1
  · cases h2
theorem pKind_le {s : List UInt8} {lets : Nat → Bool} {q r n : Nat} (hq : q ≤ s.length) (h : pKind s lets q = .ok n r) : q < r ∧ r ≤ s.length ∧ blP s r = r := by
  obtain ⟨w, p, h1, h2⟩ := PR.and_eq_ok h
  split at h2
  · cases h2
    exact pWord_le hq h1
  · cases h2
def Goes {α : Type} (s : List UInt8) (F : Nat → PR α) : Prop := ∀ q r x, q ≤ s.length → F q = .ok x r → q < r ∧ r ≤ s.length ∧ blP s r = r
theorem one_goes {s : List UInt8} {F : Nat → PR Fz} (hF : Goes s F) : Goes s (one F) := by
  intro q r x hq h
  obtain ⟨y, p, h1, h2⟩ := PR.and_eq_ok h
  cases h2
  exact hF _ _ _ hq h1
theorem pMany_goes {s : List UInt8} {F : Nat → PR Fz} (hF : Goes s F) : ∀ m, Goes s (pMany s F m)
  | 0, q, r, x, hq, h => by cases h
  | m + 1, q, r, x, hq, h => by
    rw [pMany] at h
    obtain ⟨y, p, h1, h2⟩ := PR.and_eq_ok h
    have h3 := hF _ _ _ hq h1
    split at h2
    · cases h2; exact h3
    · rename_i r2 h4
      obtain ⟨l, r3, h5, h6⟩ := PR.and_eq_ok h2
      cases h6
      have h7 := pSign_le h4
      have h8 := pMany_goes hF m _ _ _ h7.2.1 h5
      exact ⟨by omega, h8.2⟩
theorem pInner_goes {s : List UInt8} {F : Nat → PR Fz} (hF : Goes s F) {k q r : Nat} {t : Ty} (hq : q ≤ s.length) (hb : blP s q = q) (h : pInner s F k q = .ok t r) : q ≤ r ∧ r ≤ s.length ∧ blP s r = r := by
  have hM := pMany_goes hF (s.length + 1)
  have hO := one_goes hF
  unfold pInner at h
  split at h
  · obtain ⟨n, p, h1, h2⟩ := PR.and_eq_ok h
    cases h2
    have := pNum_le hq h1
    exact ⟨by omega, this.2⟩
  split at h
  · obtain ⟨n, p, h1, h2⟩ := PR.and_eq_ok h
    obtain ⟨_, p2, h3, h4⟩ := PR.and_eq_ok h2
    obtain ⟨l, p3, h5, h6⟩ := PR.and_eq_ok h4
    cases h6
    have a1 := pNum_le hq h1
    have a2 := pSign_le (pMust_ok h3)
    have a3 := hO _ _ _ a2.2.1 h5
    exact ⟨by omega, a3.2⟩
  split at h
  · obtain ⟨n, p, h1, h2⟩ := PR.and_eq_ok h
    obtain ⟨_, p2, h3, h4⟩ := PR.and_eq_ok h2
    obtain ⟨i, p3, h5, h6⟩ := PR.and_eq_ok h4
    obtain ⟨_, p4, h7, h8⟩ := PR.and_eq_ok h6
    obtain ⟨l, p5, h9, h10⟩ := PR.and_eq_ok h8
    cases h10
    have a1 := pNum_le hq h1
    have a2 := pSign_le (pMust_ok h3)
    have a3 := pKind_le a2.2.1 h5
    have a4 := pSign_le (pMust_ok h7)
    have a5 := hO _ _ _ a4.2.1 h9
    exact ⟨by omega, a5.2⟩
  split at h
  · obtain ⟨l, p, h1, h2⟩ := PR.and_eq_ok h
    cases h2
    have a1 := hM _ _ _ hq h1
    exact ⟨by omega, a1.2⟩
  split at h
  · split at h
    · cases h
      exact ⟨Nat.le_refl _, hq, hb⟩
    · obtain ⟨l, p, h1, h2⟩ := PR.and_eq_ok h
      cases h2
      have a1 := hM _ _ _ hq h1
      exact ⟨by omega, a1.2⟩
  · obtain ⟨l, p, h1, h2⟩ := PR.and_eq_ok h
    cases h2
    have a1 := hO _ _ _ hq h1
    exact ⟨by omega, a1.2⟩
theorem pTyped_goes {s : List UInt8} {F : Nat → PR Fz} (hF : Goes s F) : Goes s (pTyped s F) := by
  intro q r t hq h
  obtain ⟨k, p, h1, h2⟩ := PR.and_eq_ok h
  have a1 := pKind_le hq h1
  split at h2
  · cases h2; exact a1
  · obtain ⟨_, p2, h3, h4⟩ := PR.and_eq_ok h2
    obtain ⟨t2, p3, h5, h6⟩ := PR.and_eq_ok h4
    obtain ⟨_, p4, h7, h8⟩ := PR.and_eq_ok h6
    cases h8
    have a2 := pSign_le (pMust_ok h3)
    have a3 := pInner_goes hF a2.2.1 a2.2.2 h5
    have a4 := pSign_le (pMust_ok h7)
    exact ⟨by omega, a4.2⟩
theorem pField_goes (s : List UInt8) : ∀ d, Goes s (pField s d)
  | 0, q, r, x, hq, h => by cases h
  | d + 1, q, r, x, hq, h => by
    rw [pField] at h
    obtain ⟨nm, p, h1, h2⟩ := PR.and_eq_ok h
    obtain ⟨t, p2, h3, h4⟩ := PR.and_eq_ok h2
    have a1 := pWord_le hq h1
    have a2 := pTyped_goes (pField_goes s d) _ _ _ a1.2.1 h3
    split at h4
    · rename_i r2 h5
      cases h4
      have a3 := pSign_le h5
      exact ⟨by omega, a3.2⟩
    · cases h4
      exact ⟨by omega, a2.2⟩
/-! The kinds' words. -/
theorem word_dec0 : ∀ k : Nat, k < 21 → 0 < k → kindW (saysWord k) = k := by decide +kernel
theorem kindW_of {k : Nat} {w : List UInt8} (h0 : 0 < k) (h1 : k < 21) (hw : saysWord k = w) : kindW w = k := by
  subst hw
  exact word_dec0 k h1 h0
theorem kindW_word {w : List UInt8} (h : kindW w ≠ 0) : 0 < kindW w ∧ kindW w < 21 ∧ saysWord (kindW w) = w := by
  unfold kindW at h ⊢
  cases hf : ((List.range 21).drop 1).find? (fun k => saysWord k == w) with
  | none => rw [hf] at h; exact absurd rfl h
  | some k =>
    have h1 := List.find?_some hf
    have h2 := List.mem_of_find?_eq_some hf
    rw [Option.getD_some]
    have h3 : 0 < k ∧ k < 21 := by
      have : ∀ x ∈ (List.range 21).drop 1, 0 < x ∧ x < 21 := by decide
      exact this k h2
    exact ⟨h3.1, h3.2, by simpa using h1⟩
end Go.Proofs.YtdmdgkpjjpijdaaDoor
/- YtdmdgkpjjpijdaaDoor: plain: a word is a number as Atoi and Itoa tell it. -/
namespace Go.Proofs.YtdmdgkpjjpijdaaDoor
open Go Go.K
set_option maxRecDepth 100000
set_option linter.unusedVariables false
set_option linter.unusedSimpArgs false
theorem numOf_append (w : List UInt8) (c : UInt8) : numOf (w ++ [c]) = 10 * numOf w + (c.toNat - 48) := by unfold numOf; rw [List.foldl_append]; rfl
theorem digB_iff (c : UInt8) : digB c = true ↔ 48 ≤ c.toNat ∧ c.toNat ≤ 57 := by unfold digB; simp
theorem foldl_pos : ∀ (w : List UInt8) (n : Nat), 0 < n → 0 < w.foldl (fun n c => 10 * n + (c.toNat - 48)) n
  | [], n, h => h
  | c :: w, n, h => foldl_pos w _ (by show 0 < 10 * n + (c.toNat - 48); omega)
theorem numOf_pos {w : List UInt8} (hd : ∀ c ∈ w, digB c = true) (h0 : w ≠ []) (hh : w.head? ≠ some 48) : 0 < numOf w := by
  cases w with
  | nil => exact absurd rfl h0
  | cons c w =>
    unfold numOf
    rw [List.foldl_cons]
    refine foldl_pos w _ ?_
    have h1 := (digB_iff c).1 (hd c (.head _))
    have h2 : c.toNat ≠ 48 := fun e => hh (by rw [List.head?_cons]; congr 1; exact UInt8.toNat_inj.1 e)
    omega
theorem dig_back {c : UInt8} (h : digB c = true) : UInt8.ofNat (48 + (c.toNat - 48)) = c := by
  have h1 := (digB_iff c).1 h
  rw [show 48 + (c.toNat - 48) = c.toNat by omega]
  exact UInt8.ofNat_toNat
theorem dec_step (n d : Nat) (hn : 0 < n) (hd : d < 10) : Lib.decDigits (10 * n + d) = Lib.decDigits n ++ [UInt8.ofNat (48 + d)] := by
  rw [Lib.decDigits, dif_neg (by omega), show (10 * n + d) / 10 = n by omega, show (10 * n + d) % 10 = d by omega]
theorem dec_num : ∀ (n : Nat) (w : List UInt8), w.length = n → (∀ c ∈ w, digB c = true) → w ≠ [] → (w.length = 1 ∨ w.head? ≠ some 48) → Lib.decDigits (numOf w) = w
  | 0, w, hn, hd, h0, hh => absurd (List.eq_nil_of_length_eq_zero hn) h0
  | n + 1, w, hn, hd, h0, hh => by
    obtain ⟨v, c, rfl⟩ : ∃ v c, w = v ++ [c] := ⟨w.dropLast, w.getLast h0, (List.dropLast_concat_getLast h0).symm⟩
    have hc := hd c (by simp)
    have hc2 := (digB_iff c).1 hc
    rw [numOf_append]
    by_cases hv : v = []
    · subst hv
      rw [show numOf [] = 0 from rfl, Nat.mul_zero, Nat.zero_add, Lib.decDigits, dif_pos (by omega), dig_back hc]
      rfl
    · have hl : v.length = n := by simp at hn; omega
      have hv1 : v.head? ≠ some 48 := by
        rcases hh with hh | hh
        · have : 0 < v.length := List.length_pos_iff.2 hv
          rw [List.length_append, List.length_singleton] at hh
          omega
        · obtain ⟨x, r, e⟩ := List.exists_cons_of_ne_nil hv
          rw [e] at hh ⊢
          simpa using hh
      have hvd : ∀ c ∈ v, digB c = true := fun x hx => hd x (List.mem_append_left _ hx)
      rw [dec_step _ _ (numOf_pos hvd hv hv1) (by omega), dec_num n v hl hvd hv (.inr hv1), dig_back hc]
theorem dec_ok : ∀ (u : Nat), (∀ c ∈ Lib.decDigits u, digB c = true) ∧ Lib.decDigits u ≠ [] ∧ (u < 10 → (Lib.decDigits u).length = 1) ∧ (0 < u → (Lib.decDigits u).head? ≠ some 48) ∧ numOf (Lib.decDigits u) = u := by
  intro u
  induction u using Nat.strongRecOn with
  | _ u ih =>
    have hd : ∀ d, d < 10 → (UInt8.ofNat (48 + d)).toNat = 48 + d := fun d hd => by rw [UInt8.toNat_ofNat']; omega
    by_cases h : u < 10
    · rw [Lib.decDigits, dif_pos h]
      refine ⟨fun c hc => ?_, by simp, fun _ => rfl, fun h0 e => ?_, ?_⟩
      · rw [List.mem_singleton.1 hc, digB_iff, hd u h]; omega
      · simp only [List.head?_cons, Option.some.injEq] at e
        have := congrArg UInt8.toNat e
        rw [hd u h] at this
        have h48 : (48 : UInt8).toNat = 48 := rfl
        omega
      · show 10 * 0 + ((UInt8.ofNat (48 + u)).toNat - 48) = u
        rw [hd u h]; omega
    · obtain ⟨h1, h2, _, h4, h5⟩ := ih (u / 10) (by omega)
      rw [Lib.decDigits, dif_neg h]
      have hm := hd (u % 10) (by omega)
      refine ⟨fun c hc => ?_, by simp, fun h0 => absurd h0 h, fun h0 => ?_, ?_⟩
      · rcases List.mem_append.1 hc with hc | hc
        · exact h1 c hc
        · rw [List.mem_singleton.1 hc, digB_iff, hm]; omega
      · obtain ⟨x, r, e⟩ := List.exists_cons_of_ne_nil h2
        have := h4 (by omega)
        rw [e] at this ⊢
        simpa using this
      · rw [numOf_append, h5, hm]; omega
theorem parse_num : ∀ (w : List UInt8) (acc : Nat), (∀ c ∈ w, digB c = true) → w.length ≤ 4 → acc * 10 ^ w.length + 10 ^ w.length ≤ 100000 → Lib.parseUint10 acc w = .ok (w.foldl (fun n c => 10 * n + (c.toNat - 48)) acc)
  | [], acc, hd, hl, ha => rfl
  | c :: w, acc, hd, hl, ha => by
    have hc := (digB_iff c).1 (hd c (.head _))
    have hp : 1 ≤ 10 ^ w.length := Nat.one_le_pow _ _ (by decide)
    rw [List.length_cons, Nat.pow_succ] at ha
    have hacc : acc ≤ 100000 := by
      have : acc * 1 ≤ acc * (10 ^ w.length * 10) := Nat.mul_le_mul_left _ (by omega)
      omega
    rw [Lib.parseUint10, if_pos hc, if_neg (by omega), if_neg (by omega), List.foldl_cons, Nat.mul_comm acc 10]
    refine parse_num w _ (fun x hx => hd x (.tail _ hx)) (by simp at hl; omega) ?_
    have e : (10 * acc + (c.toNat - 48)) * 10 ^ w.length + 10 ^ w.length ≤ acc * (10 ^ w.length * 10) + 10 ^ w.length * 10 := by
      have e1 : (10 * acc + (c.toNat - 48)) * 10 ^ w.length + 10 ^ w.length = (10 * acc + (c.toNat - 48) + 1) * 10 ^ w.length := (Nat.succ_mul _ _).symm
      have e2 : acc * (10 ^ w.length * 10) + 10 ^ w.length * 10 = (10 * acc + 10) * 10 ^ w.length := by
        rw [Nat.add_mul, Nat.mul_comm (10 ^ w.length) 10, ← Nat.mul_assoc, Nat.mul_comm acc 10]
      rw [e1, e2]
      exact Nat.mul_le_mul_right _ (by omega)
    omega
theorem numOK_iff (w : List UInt8) : numOK w = true ↔ w.length ≤ 4 ∧ (∀ c ∈ w, digB c = true) ∧ (w.length = 1 ∨ w.head? ≠ some 48) := by
  unfold numOK
  simp only [Bool.and_eq_true, Bool.or_eq_true, decide_eq_true_eq, List.all_eq_true]
  exact and_assoc
theorem foldl_lt : ∀ (w : List UInt8) (acc : Nat), (∀ c ∈ w, digB c = true) → w.foldl (fun n c => 10 * n + (c.toNat - 48)) acc < acc * 10 ^ w.length + 10 ^ w.length
  | [], acc, hd => by simp
  | c :: w, acc, hd => by
    have hc := (digB_iff c).1 (hd c (.head _))
    have h1 := foldl_lt w (10 * acc + (c.toNat - 48)) fun x hx => hd x (.tail _ hx)
    have e1 : (10 * acc + (c.toNat - 48)) * 10 ^ w.length + 10 ^ w.length = (10 * acc + (c.toNat - 48) + 1) * 10 ^ w.length := (Nat.succ_mul _ _).symm
    have e2 : acc * 10 ^ (c :: w).length + 10 ^ (c :: w).length = (10 * acc + 10) * 10 ^ w.length := by
      rw [List.length_cons, Nat.pow_succ, Nat.add_mul, Nat.mul_comm (10 ^ w.length) 10, ← Nat.mul_assoc, Nat.mul_comm acc 10]
    rw [List.foldl_cons, e2]
    have := Nat.mul_le_mul_right (10 ^ w.length) (show 10 * acc + (c.toNat - 48) + 1 ≤ 10 * acc + 10 by omega)
    omega
theorem num_lt {w : List UInt8} (h : numOK w = true) : numOf w < 10000 := by
  obtain ⟨h1, h2, _⟩ := (numOK_iff w).1 h
  have h3 := foldl_lt w 0 h2
  have h4 : 10 ^ w.length ≤ 10 ^ 4 := Nat.pow_le_pow_right (by decide) h1
  unfold numOf
  omega
theorem num_yes {w : List UInt8} (h : numOK w = true) (h0 : w ≠ []) : Lib.atoiAll w = .ok (numOf w : Int) ∧ Lib.itoa (numOf w) = w ∧ w.length ≤ 4 := by
  obtain ⟨h1, h2, h3⟩ := (numOK_iff w).1 h
  refine ⟨?_, ?_, h1⟩
  · obtain ⟨c, r, rfl⟩ := List.exists_cons_of_ne_nil h0
    have hc := (digB_iff c).1 (h2 c (.head _))
    have hlt := num_lt h
    unfold Lib.atoiAll
    simp only
    rw [if_neg (by omega)]
    unfold Lib.parseMag
    rw [if_neg (by simp), parse_num (c :: r) 0 h2 h1 (by
      have h4 : 10 ^ (c :: r).length ≤ 10 ^ 4 := Nat.pow_le_pow_right (by decide) h1
      omega)]
    simp only
    have e : List.foldl (fun n c => 10 * n + (c.toNat - 48)) 0 (c :: r) = numOf (c :: r) := rfl
    rw [e, if_neg (by omega), if_neg (by omega), if_neg (by omega)]
  · unfold Lib.itoa
    rw [if_neg (by omega), Int.toNat_natCast]
    exact dec_num _ w rfl h2 h0 h3
theorem num_no {w : List UInt8} (h : ¬ numOK w = true) (h4 : w.length ≤ 4) {v : Int} (h0 : 0 ≤ v) : Lib.itoa v ≠ w := by
  intro e
  apply h
  unfold Lib.itoa at e
  rw [if_neg (by omega)] at e
  obtain ⟨h1, h2, h3, h5, _⟩ := dec_ok v.toNat
  rw [e] at h1 h2 h3 h5
  refine (numOK_iff w).2 ⟨h4, h1, ?_⟩
  by_cases h6 : v.toNat < 10
  · exact .inl (h3 h6)
  · exact .inr (h5 (by omega))
end Go.Proofs.YtdmdgkpjjpijdaaDoor
/- YtdmdgkpjjpijdaaDoor: walks, part 155: readers of texts: what they own, how their functions end. -/
namespace Go.Proofs.YtdmdgkpjjpijdaaDoor
open Go Go.K
set_option maxRecDepth 100000
set_option linter.unusedVariables false
set_option linter.unusedSimpArgs false
set_option maxHeartbeats 4000000
/-- A reader: its text, its place. -/
abbrev oRd (rb : Nat) (s : List UInt8) (p : Nat) : Nat × Obj := (rb, Obj.cells #[str s, i64 p] 56 (0, 0))
/-- What a reader gives up with. -/
abbrev faultE (q : Nat) : PanicEntry := { v := .iface 52 (.agg #[i64 q]), recovered := false }
/-- How a reader's function ends. -/
def PRet {α : Type} (wb : World) (rb : Nat) (s : List UInt8) (M : Own) (r : PR α) (S : α → Nat → Value → Own → Prop) (e : Ending) (w' : World) : Prop :=
  match r with
  | .ok x q => ∃ (v : Value) (p' : Nat) (K : Own), e = .returned v ∧ blP s p' = q ∧ p' ≤ s.length ∧ S x q v K ∧ (∀ b ∈ K, wb.heap.size ≤ b.1) ∧ Sy wb (oRd rb s p' :: (K ++ M)) w'
  | .no q => ∃ K : Own, e = .panicked [faultE q] ∧ (∀ b ∈ K, wb.heap.size ≤ b.1) ∧ Sy wb (K ++ M) w'
theorem PRet.leaf {α : Type} {wb w' : World} {rb : Nat} {s : List UInt8} {M : Own} {r : PR α} {S : α → Nat → Value → Own → Prop} {x : α} {q : Nat} (v : Value) (p' : Nat) (K : Own) (hr : r = .ok x q) (h1 : blP s p' = q) (h2 : p' ≤ s.length) (h3 : S x q v K) (h4 : ∀ b ∈ K, wb.heap.size ≤ b.1) (h5 : Sy wb (oRd rb s p' :: (K ++ M)) w') : PRet wb rb s M r S (.returned v) w' := by
  rw [hr]
  exact ⟨v, p', K, rfl, h1, h2, h3, h4, h5⟩
theorem PRet.fall {α : Type} {wb w' : World} {rb : Nat} {s : List UInt8} {M : Own} {r : PR α} {S : α → Nat → Value → Own → Prop} {q : Nat} (K : Own) (hr : r = .no q) (h4 : ∀ b ∈ K, wb.heap.size ≤ b.1) (h5 : Sy wb (K ++ M) w') : PRet wb rb s M r S (.panicked [faultE q]) w' := by
  rw [hr]
  exact ⟨K, rfl, h4, h5⟩
/-- A call of a reader's function. -/
theorem callX_pr {P : Program} {α : Type} {wb : World} {L M : Own} {Kp : KP} {rb : Nat} {s : List UInt8} {r : PR α} {S : α → Nat → Value → Own → Prop} {f : FuncId} {args : Array Value} {K1 : Value → World → Own → Prop} (h : ∀ w, Sy wb L w → Calls P f args w (PRet wb rb s M r S))
    (hk : ∀ x q v p' K, r = .ok x q → blP s p' = q → p' ≤ s.length → S x q v K → (∀ b ∈ K, wb.heap.size ≤ b.1) → K1 v wb (oRd rb s p' :: (K ++ M)))
    (hp : ∀ q K, r = .no q → (∀ b ∈ K, wb.heap.size ≤ b.1) → Kp [faultE q] wb (K ++ M)) : CallX P f args wb L (tag K1) (tag Kp) := by
  cases r with
  | ok x q =>
    refine callX_pan (S := fun v L' => ∃ p' K, blP s p' = q ∧ p' ≤ s.length ∧ S x q v K ∧ (∀ b ∈ K, wb.heap.size ≤ b.1) ∧ L' = oRd rb s p' :: (K ++ M)) (SP := fun _ _ => False) (fun w hw => (h w hw).mono fun e w' hx => ?_) (fun v L' hx => ?_) (fun _ _ hx => hx.elim)
    · obtain ⟨v, p', K, rfl, h1, h2, h3, h4, h5⟩ := hx
      exact .inl ⟨v, _, rfl, h5, p', K, h1, h2, h3, h4, rfl⟩
    · obtain ⟨p', K, h1, h2, h3, h4, rfl⟩ := hx
      exact hk x q v p' K rfl h1 h2 h3 h4
  | no q =>
    refine callX_pan (S := fun _ _ => False) (SP := fun ch L' => ∃ K : Own, ch = [faultE q] ∧ (∀ b ∈ K, wb.heap.size ≤ b.1) ∧ L' = K ++ M) (fun w hw => (h w hw).mono fun e w' hx => ?_) (fun _ _ hx => hx.elim) (fun ch L' hx => ?_)
    · obtain ⟨K, rfl, h1, h2⟩ := hx
      exact .inr ⟨_, _, rfl, h2, K, rfl, h1, rfl⟩
    · obtain ⟨K, rfl, h1, rfl⟩ := hx
      exact hp q K rfl h1
mutual
/-- The lists within a place tree lie in these blocks alone, each in its own one. -/
def OwP : Sp → Own → Option Addr → Nat → Prop
  | .mk at_ kids, K, a, c => at_ ≤ 1000000 ∧ ((kids = [] ∧ a = none ∧ c = 0 ∧ K = []) ∨
      ∃ (b : Nat) (cs : List Value) (K' : Own), a = some ⟨b, 0, none⟩ ∧ K = (b, Obj.cells cs.toArray 78 (0, 0)) :: K' ∧ kids.length ≤ c ∧ c ≤ maxLen ∧ OwPK kids K' (cs.take (kids.length * 2)))
def OwPK : List Sp → Own → List Value → Prop
  | [], K, cs => K = [] ∧ cs = []
  | x :: l, K, cs => ∃ (K1 K2 : Own) (a : Option Addr) (c : Nat) (cs' : List Value), K = K1 ++ K2 ∧ cs = [i64 x.at_, .slice a x.kids.length c] ++ cs' ∧ OwP x K1 a c ∧ OwPK l K2 cs'
end
theorem OwP_iff (x : Sp) (K : Own) (a : Option Addr) (c : Nat) : OwP x K a c ↔ x.at_ ≤ 1000000 ∧ ((x.kids = [] ∧ a = none ∧ c = 0 ∧ K = []) ∨
      ∃ (b : Nat) (cs : List Value) (K' : Own), a = some ⟨b, 0, none⟩ ∧ K = (b, Obj.cells cs.toArray 78 (0, 0)) :: K' ∧ x.kids.length ≤ c ∧ c ≤ maxLen ∧ OwPK x.kids K' (cs.take (x.kids.length * 2))) := by
  cases x; rw [OwP]; rfl
/-- A list of place trees of one's own memory. -/
abbrev OwPS (l : List Sp) (K : Own) (a : Option Addr) (c : Nat) : Prop := OwP (.mk 0 l) K a c
theorem OwPS_iff (l : List Sp) (K : Own) (a : Option Addr) (c : Nat) : OwPS l K a c ↔ ((l = [] ∧ a = none ∧ c = 0 ∧ K = []) ∨
      ∃ (b : Nat) (cs : List Value) (K' : Own), a = some ⟨b, 0, none⟩ ∧ K = (b, Obj.cells cs.toArray 78 (0, 0)) :: K' ∧ l.length ≤ c ∧ c ≤ maxLen ∧ OwPK l K' (cs.take (l.length * 2))) := by
  rw [OwPS, OwP]; simp
theorem OwP.toS {x : Sp} {K : Own} {a : Option Addr} {c : Nat} (h : OwP x K a c) : OwPS x.kids K a c := (OwPS_iff _ _ _ _).2 ((OwP_iff _ _ _ _).1 h).2
theorem OwPS.toP {x : Sp} {K : Own} {a : Option Addr} {c : Nat} (h : OwPS x.kids K a c) (hn : x.at_ ≤ 1000000) : OwP x K a c := (OwP_iff _ _ _ _).2 ⟨hn, (OwPS_iff _ _ _ _).1 h⟩
theorem OwPK.append {m : List Sp} {K2 : Own} {ds : List Value} (hd : OwPK m K2 ds) : ∀ {l : List Sp} {K1 : Own} {cs : List Value}, OwPK l K1 cs → OwPK (l ++ m) (K1 ++ K2) (cs ++ ds)
  | [], K1, cs, h => by rw [OwPK] at h; obtain ⟨rfl, rfl⟩ := h; exact hd
  | f :: l, K1, cs, h => by
    rw [OwPK] at h
    obtain ⟨A, B, a, c, cs', rfl, rfl, h1, h2⟩ := h
    rw [List.cons_append, OwPK]
    exact ⟨A, B ++ K2, a, c, cs' ++ ds, by rw [List.append_assoc], by rw [List.append_assoc], h1, OwPK.append hd h2⟩
theorem OwPK.single {x : Sp} {K : Own} {a : Option Addr} {c : Nat} (h : OwP x K a c) : OwPK [x] K [i64 x.at_, .slice a x.kids.length c] := by
  rw [OwPK]
  exact ⟨K, [], a, c, [], by simp, by simp, h, by rw [OwPK]; exact ⟨rfl, rfl⟩⟩
theorem OwPK.nil : OwPK [] [] [] := by rw [OwPK]; exact ⟨rfl, rfl⟩
theorem OwPK.len : ∀ {l : List Sp} {K : Own} {cs : List Value}, OwPK l K cs → cs.length = l.length * 2
  | [], K, cs, h => by rw [OwPK] at h; rw [h.2]; rfl
  | f :: l, K, cs, h => by
    rw [OwPK] at h
    obtain ⟨K1, K2, a, c, cs', _, rfl, _, h2⟩ := h
    have := OwPK.len h2
    simp only [List.length_append, List.length_cons, List.length_nil, this]
    omega
/-- The i-th one. -/
theorem OwPK.get {x : Sp} : ∀ {l : List Sp} {K : Own} {cs : List Value} (i : Nat), OwPK l K cs → l[i]? = some x → ∃ (K1 : Own) (a : Option Addr) (c : Nat), (∀ p ∈ K1, p ∈ K) ∧ OwP x K1 a c ∧ cs[i * 2]? = some (i64 x.at_) ∧ cs[i * 2 + 1]? = some (.slice a x.kids.length c)
  | [], _, _, i, _, hi => by simp at hi
  | y :: l, K, cs, 0, h, hi => by
    simp only [List.getElem?_cons_zero, Option.some.injEq] at hi
    subst hi
    rw [OwPK] at h
    obtain ⟨K1, K2, a, c, cs', rfl, rfl, h1, h2⟩ := h
    exact ⟨K1, a, c, fun p hp => List.mem_append_left _ hp, h1, rfl, rfl⟩
  | y :: l, K, cs, i + 1, h, hi => by
    simp only [List.getElem?_cons_succ] at hi
    rw [OwPK] at h
    obtain ⟨K1, K2, a, c, cs', rfl, rfl, h1, h2⟩ := h
    obtain ⟨K3, a3, c3, q1, q2, q3, q4⟩ := OwPK.get i h2 hi
    refine ⟨K3, a3, c3, fun p hp => List.mem_append_right _ (q1 p hp), q2, ?_, ?_⟩
    · rw [show (i + 1) * 2 = i * 2 + 2 by omega]; exact q3
    · rw [show (i + 1) * 2 + 1 = i * 2 + 1 + 2 by omega]; exact q4
/-- Notes of one's own memory. -/
def OwN (nt : List NoteQ) (K : Own) (a : Option Addr) (c : Nat) : Prop := (nt = [] ∧ a = none ∧ c = 0 ∧ K = []) ∨
  ∃ (b : Nat) (cs : List Value), a = some ⟨b, 0, none⟩ ∧ K = [(b, Obj.cells cs.toArray 64 (0, 0))] ∧ nt.length ≤ c ∧ c ≤ maxLen ∧ cs.length = c * 2 ∧ cs.take (nt.length * 2) = nt.flatMap fun n => [str n.1, str n.2]
end Go.Proofs.YtdmdgkpjjpijdaaDoor
