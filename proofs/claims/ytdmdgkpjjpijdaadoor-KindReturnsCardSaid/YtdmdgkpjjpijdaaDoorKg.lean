/- YtdmdgkpjjpijdaaDoor: the walk calculus, part Kg: proved rules by which the walks of this seat are made. -/
import Derived.Test.YtdmdgkpjjpijdaaDoorKf

namespace Go.K
open Go
set_option linter.unusedVariables false
set_option linter.unusedSimpArgs false

/-- A field, as it is meant: its name, Nullable, its type's kind, width, ID and index, the fields within. -/
inductive Fld where
  | mk (nm : List UInt8) (nl : Bool) (k wd id ix : Int) (sub : List Fld)
namespace Fld
def nm : Fld → List UInt8 | mk a _ _ _ _ _ _ => a
def nl : Fld → Bool | mk _ a _ _ _ _ _ => a
def k : Fld → Int | mk _ _ a _ _ _ _ => a
def wd : Fld → Int | mk _ _ _ a _ _ _ => a
def id : Fld → Int | mk _ _ _ _ a _ _ => a
def ix : Fld → Int | mk _ _ _ _ _ a _ => a
def sub : Fld → List Fld | mk _ _ _ _ _ _ a => a
/-- Its cells, its children's list told by address and room. -/
def cells (f : Fld) (a : Option Addr) (c : Nat) : List Value := [str f.nm, .bool f.nl, i64 f.k, i64 f.wd, i64 f.id, i64 f.ix, .slice a f.sub.length c]
def tcells (f : Fld) (a : Option Addr) (c : Nat) : List Value := [i64 f.k, i64 f.wd, i64 f.id, i64 f.ix, .slice a f.sub.length c]
end Fld

/-- The fields of a list lie in memory, below 'lo'. -/
inductive Rd (w : World) (lo : Nat) : Option Addr → List Fld → Prop where
  | nil (a : Option Addr) : Rd w lo a []
  | cons {b off : Nat} {a : Option Addr} {c : Nat} {f : Fld} {rest : List Fld} (hb : b < lo) (hc : f.sub.length ≤ c) (hn : f.nm.length ≤ 9223372036854775807) (hl : c ≤ 9223372036854775807)
      (hat : At w b off (f.cells a c)) (hs : Rd w lo a f.sub) (hr : Rd w lo (some ⟨b, off + 7, none⟩) rest) : Rd w lo (some ⟨b, off, none⟩) (f :: rest)

theorem Rd.mono {w w' : World} {lo : Nat} {a : Option Addr} {l : List Fld} (h : Rd w lo a l) (hw : ∀ k, k < lo → w'.heap[k]? = w.heap[k]?) : Rd w' lo a l := by
  induction h with
  | nil a => exact .nil a
  | cons hb hc hn hl hat hs hr ih1 ih2 => exact .cons hb hc hn hl (hat.of_block (hw _ hb)) ih1 ih2
theorem Rd.weaken {w : World} {lo lo' : Nat} {a : Option Addr} {l : List Fld} (h : Rd w lo a l) (hle : lo ≤ lo') : Rd w lo' a l := by
  induction h with
  | nil a => exact .nil a
  | cons hb hc hn hl hat hs hr ih1 ih2 => exact .cons (Nat.lt_of_lt_of_le hb hle) hc hn hl hat ih1 ih2
/-- The i-th field of a list that lies. -/
theorem Rd.get {w : World} {lo : Nat} : ∀ {l : List Fld} {b off : Nat} {f : Fld} (i : Nat), Rd w lo (some ⟨b, off, none⟩) l → l[i]? = some f →
    ∃ a c, b < lo ∧ At w b (off + i * 7) (f.cells a c) ∧ f.sub.length ≤ c ∧ f.nm.length ≤ 9223372036854775807 ∧ c ≤ 9223372036854775807 ∧ Rd w lo a f.sub
  | [], _, _, _, i, _, h2 => by simp at h2
  | g :: l, b, off, f, 0, h1, h2 => by
    cases h1 with
    | cons hb hc hn hl hat hs hr =>
      simp only [List.getElem?_cons_zero, Option.some.injEq] at h2
      subst h2
      exact ⟨_, _, hb, by simpa using hat, hc, hn, hl, hs⟩
  | g :: l, b, off, f, i + 1, h1, h2 => by
    cases h1 with
    | cons hb hc hn hl hat hs hr =>
      simp only [List.getElem?_cons_succ] at h2
      obtain ⟨a, c, x1, x2, x3⟩ := Rd.get i hr h2
      exact ⟨a, c, x1, by rw [show off + (i + 1) * 7 = off + 7 + i * 7 by omega]; exact x2, x3⟩
theorem Rd.some_of {w : World} {lo : Nat} {a : Option Addr} {f : Fld} {l : List Fld} (h : Rd w lo a (f :: l)) : ∃ b off, a = some ⟨b, off, none⟩ ∧ b < lo := by
  cases h with
  | cons hb hc hn hl hat hs hr => exact ⟨_, _, rfl, hb⟩
/-- A part of a list lies, too. -/
theorem Rd.take {w : World} {lo : Nat} {a : Option Addr} {l : List Fld} (h : Rd w lo a l) (n : Nat) : Rd w lo a (l.take n) := by
  induction h generalizing n with
  | nil a => simpa using .nil a
  | cons hb hc hn hl hat hs hr ih1 ih2 =>
    cases n with
    | zero => simpa using .nil _
    | succ n => exact .cons hb hc hn hl hat hs (ih2 n)
end Go.K
