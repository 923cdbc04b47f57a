/- YtilejcofleeeiaaGreatDoor: the walk calculus, part Kg: proved rules by which the walks of this seat are made. -/
import Derived.Test.YtilejcofleeeiaaGreatDoorKe
namespace Go.K
open Go
set_option linter.unusedVariables false
set_option linter.unusedSimpArgs false

variable {c : Cfg} {o : Oper} {wb : World} {e : Env} {ds : List Deferred} {L : Own}

theorem valX_mono {P : Program} {s : Sem Value} {K K' : Value → World → Own → Prop} (hk : ∀ v wb L, K v wb L → K' v wb L) (h : ValX P s wb L (tag K)) : ValX P s wb L (tag K') :=
  fun w hw => let ⟨v, w', wb', L', h1, h2, h3⟩ := h w hw; ⟨v, w', wb', L', h1, h2, hk _ _ _ h3⟩
theorem opS_mono {K K' : KV} {Kp Kp' : KP} (hk : ∀ v wb ds L, K v wb ds L → K' v wb ds L) (hp : ∀ ch wb L, Kp ch wb L → Kp' ch wb L) (h : OpS c o wb e ds L K Kp) : OpS c o wb e ds L K' Kp' :=
  fun a w hr hw next Q h1 h2 => h a w hr hw next Q (fun v wb' ds' L' w' h3 h4 => h1 v wb' ds' L' w' (hk _ _ _ _ h3) h4) (fun ch wb' L' w' h3 h4 => h2 ch wb' L' w' (hp _ _ _ h3) h4)
theorem callV_mono {f : Value} {args : Array Value} {K K' : Value → World → Own → Prop} {Kp Kp' : KP} (hk : ∀ v wb L, K v wb L → K' v wb L) (hp : ∀ ch wb L, Kp ch wb L → Kp' ch wb L)
    (h : CallV c f args (tag o) wb e ds L (tag K) (tag Kp)) : CallV c f args (tag o) wb e ds L (tag K') (tag Kp') := by
  unfold CallV at *
  split at h
  · refine ⟨h.1, fun w hw => (h.2 w hw).mono fun en w' hq => ?_⟩
    cases en with
    | returned v => obtain ⟨a, b, h1, h2⟩ := hq; exact ⟨a, b, h1, hk _ _ _ h2⟩
    | panicked ch => obtain ⟨a, b, h1, h2⟩ := hq; exact ⟨a, b, h1, hp _ _ _ h2⟩
    | outgrown => exact hq.elim
  · exact opS_mono (fun v wb ds L ⟨h1, h2⟩ => ⟨h1, hk _ _ _ h2⟩) hp h
theorem convX_mono {P : Program} {s d : TypeId} {x : Value} {K K' : Value → World → Own → Prop} (hk : ∀ v wb L, K v wb L → K' v wb L) (h : ConvX P s d x wb L (tag K)) : ConvX P s d x wb L (tag K') := by
  unfold ConvX at *
  split at h
  · obtain ⟨v, h1, h2⟩ := h; exact ⟨v, h1, hk _ _ _ h2⟩
  · exact valX_mono hk h
theorem opNode_mono {K K' : KV} {Kp Kp' : KP} (hk : ∀ v wb ds L, K v wb ds L → K' v wb ds L) (hp : ∀ ch wb L, Kp ch wb L → Kp' ch wb L) (h : opNode c o wb e ds L K Kp) : opNode c o wb e ds L K' Kp' := by
  unfold opNode at *
  split at h
  all_goals first
    | exact opS_mono hk hp h
    | exact callV_mono (fun v wb L h => hk _ _ _ _ h) hp h
    | exact convX_mono (fun v wb L h => hk _ _ _ _ h) h
    | exact valX_mono (fun v wb L h => hk _ _ _ _ h) h
    | exact hk _ _ _ _ h
    | (obtain ⟨v, h1, h2⟩ := h; exact ⟨v, h1, hk _ _ _ _ h2⟩)
    | (obtain ⟨i, z, h1, h2, h3⟩ := h; exact ⟨i, z, h1, h2, fun b hb hn => hk _ _ _ _ (h3 b hb hn)⟩)
    | exact fun b hb hn => hk _ _ _ _ (h b hb hn)
    | (intro w hw; obtain ⟨w', wb', L', h1, h2, h3⟩ := h w hw; exact ⟨w', wb', L', h1, h2, hk _ _ _ _ h3⟩)
    | (obtain ⟨t, x, h1, h2⟩ := h; exact ⟨t, x, h1, hp _ _ _ h2⟩)
    | (obtain ⟨h0, v, h1, h2⟩ := h; exact ⟨h0, v, h1, hk _ _ _ _ h2⟩)
theorem guarded_mono {all : List Oper} {g : Option (Nat × Bool)} {A B A' B' : Env → Prop} (ha : ∀ e, A e → A' e) (hb : ∀ e, B e → B' e) (h : guarded all e g A B) : guarded all e g A' B' := by
  unfold guarded at *
  split at h
  · exact ha _ h
  · unfold guardedO at *
    split at h
    · exact ⟨fun hh => ha _ (h.1 hh), fun hh => hb _ (h.2 hh)⟩
    · exact hb _ h
theorem VL_mono {all : List Oper} {Q Q' : Post} (hq : ∀ x wb e ds L, Q x wb e ds L → Q' x wb e ds L) : ∀ (rest : List Oper) (wb : World) (e : Env) (ds : List Deferred) (L : Own), VL c all Q rest wb e ds L → VL c all Q' rest wb e ds L
  | [], _, _, _, _, h => hq _ _ _ _ _ h
  | o :: rest, wb, e, ds, L, h => by
    unfold VL at h ⊢
    exact guarded_mono (fun e h => opNode_mono (fun v wb ds L h => VL_mono hq rest _ _ _ _ h) (fun ch wb L h => hq _ _ _ _ _ h) h) (fun e h => VL_mono hq rest _ _ _ _ h) h
theorem semX_mono {code : Code} {Q Q' : Post} (hq : ∀ x wb e ds L, Q x wb e ds L → Q' x wb e ds L) (h : SemX c code Q wb e ds L) : SemX c code Q' wb e ds L :=
  fun a w hr hw => wpIn_mono (h a w hr hw) (lift_mono hq)
theorem thenP_mono {K K' : World → Env → List Deferred → Own → Prop} {Q Q' : Post} (hk : ∀ wb e ds L, K wb e ds L → K' wb e ds L) (hq : ∀ x wb e ds L, Q x wb e ds L → Q' x wb e ds L) (x : Exit) (wb : World) (e : Env) (ds : List Deferred) (L : Own) (h : thenP (tag K) (tag Q) x wb e ds L) : thenP (tag K') (tag Q') x wb e ds L := by
  cases x with
  | normal => exact hk _ _ _ _ h
  | _ => exact hq _ _ _ _ _ h
theorem blockP_mono {id : Nat} {Q Q' : Post} (hq : ∀ x wb e ds L, Q x wb e ds L → Q' x wb e ds L) (x : Exit) (wb : World) (e : Env) (ds : List Deferred) (L : Own) (h : blockP id (tag Q) x wb e ds L) : blockP id (tag Q') x wb e ds L := by
  cases x with
  | exit id' =>
    simp only [blockP] at *
    split at h
    · rename_i h1; rw [if_pos h1]; exact hq _ _ _ _ _ h
    · rename_i h1; rw [if_neg h1]; exact hq _ _ _ _ _ h
  | _ => exact hq _ _ _ _ _ h
theorem V_mono : ∀ (code : Code) {Q Q' : Post} (_ : ∀ x wb e ds L, Q x wb e ds L → Q' x wb e ds L) (wb : World) (e : Env) (ds : List Deferred) (L : Own), V c code Q wb e ds L → V c code Q' wb e ds L := by
  intro code
  induction code with
  | skip => exact fun hq wb e ds L h => hq _ _ _ _ _ h
  | region id ops draw =>
    intro Q Q' hq wb e ds L h
    unfold V at *
    cases draw with
    | true => exact semX_mono hq h
    | false => exact VL_mono hq _ _ _ _ _ h
  | seq x y ihx ihy => exact fun hq wb e ds L h => ihx (thenP_mono (fun wb e ds L h => ihy hq wb e ds L h) hq) wb e ds L h
  | cond x y z ihy ihz => exact fun hq wb e ds L ⟨t, h1, h2, h3⟩ => ⟨t, h1, fun ht => ihy hq _ _ _ _ (h2 ht), fun ht => ihz hq _ _ _ _ (h3 ht)⟩
  | block id y ih => exact fun hq wb e ds L h => ih (blockP_mono hq) wb e ds L h
  | loop y _ => exact fun hq wb e ds L h => semX_mono hq h
  | rangeFunc f ps x y _ _ => exact fun hq wb e ds L h => semX_mono hq h
  | exit id => exact fun hq wb e ds L h => hq _ _ _ _ _ h
  | scope y _ => exact fun hq wb e ds L h => semX_mono hq h
  | label l => exact fun hq wb e ds L h => hq _ _ _ _ _ h
  | goto l => exact fun hq wb e ds L h => hq _ _ _ _ _ h
  | ret => exact fun hq wb e ds L h => hq _ _ _ _ _ h
  | refuse _ => exact fun hq wb e ds L h => h.elim

/-- What is known behind a piece of code is told once for all its ways. -/
theorem cutV {code : Code} {Q : Post} {K : World → Env → List Deferred → Own → Prop} (I : World → Env → List Deferred → Own → Prop) (h : VT c (tag code) (tag (thenP (tag I) (tag Q))) wb e ds L) (hk : ∀ wb e ds L, I wb e ds L → K wb e ds L) : VT c (tag code) (tag (thenP (tag K) (tag Q))) wb e ds L :=
  V_mono code (thenP_mono hk (fun _ _ _ _ _ h => h)) wb e ds L h
/-- The same, within a region. -/
theorem cutL {all rest : List Oper} {Q : Post} {K : World → Env → List Deferred → Own → Prop} (I : World → Env → List Deferred → Own → Prop) (h : VLT c (tag all) (tag (thenP (tag I) (tag Q))) (tag rest) wb e ds L) (hk : ∀ wb e ds L, I wb e ds L → K wb e ds L) : VLT c (tag all) (tag (thenP (tag K) (tag Q))) (tag rest) wb e ds L :=
  VL_mono (thenP_mono hk (fun _ _ _ _ _ h => h)) rest wb e ds L h
/-- A load of one cell of one's own block. -/
theorem ldOne {P : Program} {t : TypeId} {b off : Nat} {cs : List Value} {v : Value} {ty : TypeId} {fr : Nat × Nat} {K : Value → Prop} (ht : shapeOf P t = some (false, 1)) (hm : (b, .cells cs.toArray ty fr) ∈ L)
    (hv : cs[off]? = some v) (h : K v) : LoadX P t (.pointer (some ⟨b, off, none⟩)) wb L (tag K) := by
  refine loadX_one ht hm ?_ h
  obtain ⟨h1, h2⟩ := List.getElem?_eq_some_iff.1 hv
  rw [List.drop_eq_getElem_cons h1, h2]
  rfl
theorem out_of {b : Nat} (h : ∀ p ∈ L, b < p.1) : b ∉ L.map (·.1) := fun hm => by
  obtain ⟨p, hp, e⟩ := List.mem_map.1 hm
  have := h p hp
  omega
theorem idxA {P : Program} {K : Value → Prop} {t el sz len : Nat} (b off : Nat) (k : IntKind) (ht : P.underlying t = some (.array len el)) (hs : (P.info? el).map (·.size) = some sz) (i : Int) (h0 : 0 ≤ i) (h1 : i < len) :
    PureX P (Instr.indexAt t (.pointer (some ⟨b, off, none⟩)) (.int k i)) (tag K) = K (.pointer (some ⟨b, off + i.toNat * sz, none⟩)) := by
  refine px (fun w => ?_) K
  obtain ⟨inf, hi, hz⟩ : ∃ inf, P.info? el = some inf ∧ inf.size = sz := by
    cases hh : P.info? el with
    | none => rw [hh] at hs; cases hs
    | some inf => rw [hh] at hs; simp at hs; exact ⟨inf, rfl, hs⟩
  simp only [Instr.indexAt, asIntOf, underlying, Sem.run_bind, Sem.run_pure, run_program, Result.andThen_ok, ht, Instr.sureAddr]
  simp only [h0, h1, and_self, if_true, sizeOf, typeInfo, Sem.run_bind, run_program, Result.andThen_ok, hi, Sem.run_pure, hz]
  unfold Addr.add
  split
  · rename_i h; simp [h]
  · rfl
/-- A load of one cell of another's block. -/
theorem ldF {P : Program} {t : TypeId} {b off : Nat} {v : Value} {K : Value → Prop} (ht : shapeOf P t = some (false, 1)) (ha : At wb b off [v]) (hb : b ∉ L.map (·.1)) (h : K v) :
    LoadX P t (.pointer (some ⟨b, off, none⟩)) wb L (tag K) := loadX_oneF ht ha hb h
theorem newI {o : Obj} {K : Nat → Own → Prop} (h : ∀ b, wb.heap.size ≤ b → b ∉ L.map (·.1) → K b ((b, o) :: L)) : NewX wb L o (tag K) := h
end Go.K
namespace Go.K
open Go
set_option linter.unusedVariables false
set_option linter.unusedSimpArgs false

/-- A field, as it is meant: its name, Nullable, its type's kind, width, ID and index, the fields within. -/
inductive Fld where
  | mk (nm : List UInt8) (nl : Bool) (k wd id ix : Int) (sub : List Fld)
namespace Fld
def nm : Fld → List UInt8 | mk a _ _ _ _ _ _ => a
def nl : Fld → Bool | mk _ a _ _ _ _ _ => a
def k : Fld → Int | mk _ _ a _ _ _ _ => a
def wd : Fld → Int | mk _ _ _ a _ _ _ => a
def id : Fld → Int | mk _ _ _ _ a _ _ => a
def ix : Fld → Int | mk _ _ _ _ _ a _ => a
def sub : Fld → List Fld | mk _ _ _ _ _ _ a => a
/-- Its cells, its children's list told by address and room. -/
def cells (f : Fld) (a : Option Addr) (c : Nat) : List Value := [str f.nm, .bool f.nl, i64 f.k, i64 f.wd, i64 f.id, i64 f.ix, .slice a f.sub.length c]
def tcells (f : Fld) (a : Option Addr) (c : Nat) : List Value := [i64 f.k, i64 f.wd, i64 f.id, i64 f.ix, .slice a f.sub.length c]
end Fld

/-- The fields of a list lie in memory, below 'lo'. -/
inductive Rd (w : World) (lo : Nat) : Option Addr → List Fld → Prop where
  | nil (a : Option Addr) : Rd w lo a []
  | cons {b off : Nat} {a : Option Addr} {c : Nat} {f : Fld} {rest : List Fld} (hb : b < lo) (hc : f.sub.length ≤ c) (hn : f.nm.length ≤ 9223372036854775807) (hl : c ≤ 9223372036854775807)
      (hat : At w b off (f.cells a c)) (hs : Rd w lo a f.sub) (hr : Rd w lo (some ⟨b, off + 7, none⟩) rest) : Rd w lo (some ⟨b, off, none⟩) (f :: rest)

theorem Rd.mono {w w' : World} {lo : Nat} {a : Option Addr} {l : List Fld} (h : Rd w lo a l) (hw : ∀ k, k < lo → w'.heap[k]? = w.heap[k]?) : Rd w' lo a l := by
  induction h with
  | nil a => exact .nil a
  | cons hb hc hn hl hat hs hr ih1 ih2 => exact .cons hb hc hn hl (hat.of_block (hw _ hb)) ih1 ih2
theorem Rd.weaken {w : World} {lo lo' : Nat} {a : Option Addr} {l : List Fld} (h : Rd w lo a l) (hle : lo ≤ lo') : Rd w lo' a l := by
  induction h with
  | nil a => exact .nil a
  | cons hb hc hn hl hat hs hr ih1 ih2 => exact .cons (Nat.lt_of_lt_of_le hb hle) hc hn hl hat ih1 ih2
/-- The i-th field of a list that lies. -/
theorem Rd.get {w : World} {lo : Nat} : ∀ {l : List Fld} {b off : Nat} {f : Fld} (i : Nat), Rd w lo (some ⟨b, off, none⟩) l → l[i]? = some f →
    ∃ a c, b < lo ∧ At w b (off + i * 7) (f.cells a c) ∧ f.sub.length ≤ c ∧ f.nm.length ≤ 9223372036854775807 ∧ c ≤ 9223372036854775807 ∧ Rd w lo a f.sub
  | [], _, _, _, i, _, h2 => by simp at h2
  | g :: l, b, off, f, 0, h1, h2 => by
    cases h1 with
    | cons hb hc hn hl hat hs hr =>
      simp only [List.getElem?_cons_zero, Option.some.injEq] at h2
      subst h2
      exact ⟨_, _, hb, by simpa using hat, hc, hn, hl, hs⟩
  | g :: l, b, off, f, i + 1, h1, h2 => by
    cases h1 with
    | cons hb hc hn hl hat hs hr =>
      simp only [List.getElem?_cons_succ] at h2
      obtain ⟨a, c, x1, x2, x3⟩ := Rd.get i hr h2
      exact ⟨a, c, x1, by rw [show off + (i + 1) * 7 = off + 7 + i * 7 by omega]; exact x2, x3⟩
theorem Rd.some_of {w : World} {lo : Nat} {a : Option Addr} {f : Fld} {l : List Fld} (h : Rd w lo a (f :: l)) : ∃ b off, a = some ⟨b, off, none⟩ ∧ b < lo := by
  cases h with
  | cons hb hc hn hl hat hs hr => exact ⟨_, _, rfl, hb⟩
/-- A part of a list lies, too. -/
theorem Rd.take {w : World} {lo : Nat} {a : Option Addr} {l : List Fld} (h : Rd w lo a l) (n : Nat) : Rd w lo a (l.take n) := by
  induction h generalizing n with
  | nil a => simpa using .nil a
  | cons hb hc hn hl hat hs hr ih1 ih2 =>
    cases n with
    | zero => simpa using .nil _
    | succ n => exact .cons hb hc hn hl hat hs (ih2 n)
end Go.K
