/- YtdmdgkpjjpijdaaDoor: walks, part 59: fields that can be read in all worlds of a kind. -/
import Derived.Test.YtdmdgkpjjpijdaaDoorW37
import Derived.Test.YtdmdgkpjjpijdaaDoorKp
import Derived.Laws.MakeOwn
import Derived.Test.YtdmdgkpjjpijdaaDoorKs
import Derived.RangeFuncRecord
namespace Go.Proofs.YtdmdgkpjjpijdaaDoor
open Go Go.K
set_option maxRecDepth 100000
set_option linter.unusedVariables false
set_option linter.unusedSimpArgs false
set_option maxHeartbeats 1000000
theorem infoFldC : (Tryd.prog.info? 41).map (fun i => (i.zero, i.size, i.bytes)) = some (some (.agg #[str [], .bool false, i64 0, i64 0, i64 0, i64 0, .slice none 0 0]), 7, 80) := by kernel_rfl
/-- These blocks are held. -/
def Held (w : World) (M : Own) : Prop := ∀ p ∈ M, w.heap[p.1]? = some p.2
theorem Held.of_sy {wb w : World} {L M : Own} (h : Sy wb L w) (hM : ∀ p ∈ M, p ∈ L) : Held w M := fun p hp => h.own p.1 p.2 (hM p hp)
/-- The fields of a list lie in memory, at the same place in all worlds of a kind. -/
inductive RdX (G : World → Prop) : Option Addr → List Fld → Prop where
  | nil (a : Option Addr) : RdX G a []
  | cons {b off : Nat} {a : Option Addr} {c : Nat} {f : Fld} {rest : List Fld} (hc : f.sub.length ≤ c) (hn : f.nm.length ≤ 9223372036854775807) (hl : c ≤ 9223372036854775807)
      (hat : ∀ w, G w → At w b off (f.cells a c)) (hs : RdX G a f.sub) (hr : RdX G (some ⟨b, off + 7, none⟩) rest) : RdX G (some ⟨b, off, none⟩) (f :: rest)
theorem RdX.toRd {G : World → Prop} {w : World} (hw : G w) {a : Option Addr} {l : List Fld} (h : RdX G a l) : Rd w w.heap.size a l := by
  induction h with
  | nil a => exact .nil a
  | cons hc hn hl hat hs hr ih1 ih2 => exact .cons (hat w hw).lt hc hn hl (hat w hw) ih1 ih2
theorem RdX.mono {G G' : World → Prop} (hg : ∀ w, G' w → G w) {a : Option Addr} {l : List Fld} (h : RdX G a l) : RdX G' a l := by
  induction h with
  | nil a => exact .nil a
  | cons hc hn hl hat hs hr ih1 ih2 => exact .cons hc hn hl (fun w hw => hat w (hg w hw)) ih1 ih2
theorem RdX.of_rd {G : World → Prop} {wb : World} {lo : Nat} (hg : ∀ w, G w → ∀ k, k < lo → w.heap[k]? = wb.heap[k]?) {a : Option Addr} {l : List Fld} (h : Rd wb lo a l) : RdX G a l := by
  induction h with
  | nil a => exact .nil a
  | cons hb hc hn hl hat hs hr ih1 ih2 => exact .cons hc hn hl (fun w hw => hat.of_block (hg w hw _ hb)) ih1 ih2
theorem RdX.get {G : World → Prop} : ∀ {l : List Fld} {b off : Nat} {f : Fld} (i : Nat), RdX G (some ⟨b, off, none⟩) l → l[i]? = some f →
    ∃ a c, (∀ w, G w → At w b (off + i * 7) (f.cells a c)) ∧ f.sub.length ≤ c ∧ f.nm.length ≤ 9223372036854775807 ∧ c ≤ 9223372036854775807 ∧ RdX G a f.sub
  | [], _, _, _, i, _, h2 => by simp at h2
  | g :: l, b, off, f, 0, h1, h2 => by
    cases h1 with
    | cons hc hn hl hat hs hr =>
      simp only [List.getElem?_cons_zero, Option.some.injEq] at h2
      subst h2
      exact ⟨_, _, by simpa using hat, hc, hn, hl, hs⟩
  | g :: l, b, off, f, i + 1, h1, h2 => by
    cases h1 with
    | cons hc hn hl hat hs hr =>
      simp only [List.getElem?_cons_succ] at h2
      obtain ⟨a, c, x1, x2⟩ := RdX.get i hr h2
      exact ⟨a, c, by rw [show off + (i + 1) * 7 = off + 7 + i * 7 by omega]; exact x1, x2⟩
theorem RdX.some_of {G : World → Prop} {a : Option Addr} {f : Fld} {l : List Fld} (h : RdX G a (f :: l)) : ∃ b off, a = some ⟨b, off, none⟩ := by
  cases h with
  | cons hc hn hl hat hs hr => exact ⟨_, _, rfl⟩
theorem RdX.take {G : World → Prop} {a : Option Addr} {l : List Fld} (h : RdX G a l) (n : Nat) : RdX G a (l.take n) := by
  induction h generalizing n with
  | nil a => simpa using .nil a
  | cons hc hn hl hat hs hr ih1 ih2 =>
    cases n with
    | zero => simpa using .nil _
    | succ n => exact .cons hc hn hl hat hs (ih2 n)
end Go.Proofs.YtdmdgkpjjpijdaaDoor
/- YtdmdgkpjjpijdaaDoor: walks, part 110: fields of their own memory: each list in a block of its own. -/
namespace Go.Proofs.YtdmdgkpjjpijdaaDoor
open Go Go.K
set_option maxRecDepth 100000
set_option linter.unusedVariables false
set_option linter.unusedSimpArgs false
set_option maxHeartbeats 1600000
mutual
/-- The lists within a field lie in these blocks alone, each in its own one. -/
def OwF : Fld → Own → Option Addr → Nat → Prop
  | .mk nm _ _ _ _ _ sub, K, a, c => nm.length ≤ 9223372036854775807 ∧ ((sub = [] ∧ a = none ∧ c = 0 ∧ K = []) ∨
      ∃ (b cap : Nat) (cs xs : List Value) (K' : Own), a = some ⟨b, 0, none⟩ ∧ K = (b, Obj.cells cs.toArray 41 (0, 0)) :: K' ∧ sub.length ≤ c ∧ c ≤ cap ∧ (c = cap ∨ c = sub.length) ∧ cap ≤ 9223372036854775807 ∧ cs.length = cap * 7 ∧ cs.take (sub.length * 7) = xs ∧ OwK sub K' xs)
def OwK : List Fld → Own → List Value → Prop
  | [], K, cs => K = [] ∧ cs = []
  | f :: l, K, cs => ∃ (K1 K2 : Own) (a : Option Addr) (c : Nat) (cs' : List Value), K = K1 ++ K2 ∧ cs = f.cells a c ++ cs' ∧ OwF f K1 a c ∧ OwK l K2 cs'
end
theorem OwF_iff (f : Fld) (K : Own) (a : Option Addr) (c : Nat) : OwF f K a c ↔ f.nm.length ≤ 9223372036854775807 ∧ ((f.sub = [] ∧ a = none ∧ c = 0 ∧ K = []) ∨
      ∃ (b cap : Nat) (cs xs : List Value) (K' : Own), a = some ⟨b, 0, none⟩ ∧ K = (b, Obj.cells cs.toArray 41 (0, 0)) :: K' ∧ f.sub.length ≤ c ∧ c ≤ cap ∧ (c = cap ∨ c = f.sub.length) ∧ cap ≤ 9223372036854775807 ∧ cs.length = cap * 7 ∧ cs.take (f.sub.length * 7) = xs ∧ OwK f.sub K' xs) := by
  cases f; rw [OwF]; rfl
/-- A list of one's own memory. -/
abbrev OwS (l : List Fld) (K : Own) (a : Option Addr) (c : Nat) : Prop := OwF (.mk [] false 0 0 0 0 l) K a c
theorem OwS_iff (l : List Fld) (K : Own) (a : Option Addr) (c : Nat) : OwS l K a c ↔ ((l = [] ∧ a = none ∧ c = 0 ∧ K = []) ∨
      ∃ (b cap : Nat) (cs xs : List Value) (K' : Own), a = some ⟨b, 0, none⟩ ∧ K = (b, Obj.cells cs.toArray 41 (0, 0)) :: K' ∧ l.length ≤ c ∧ c ≤ cap ∧ (c = cap ∨ c = l.length) ∧ cap ≤ 9223372036854775807 ∧ cs.length = cap * 7 ∧ cs.take (l.length * 7) = xs ∧ OwK l K' xs) := by
  rw [OwS, OwF]; simp
theorem OwF.toS {f : Fld} {K : Own} {a : Option Addr} {c : Nat} (h : OwF f K a c) : OwS f.sub K a c := (OwS_iff _ _ _ _).2 ((OwF_iff _ _ _ _).1 h).2
theorem OwS.toF {f : Fld} {K : Own} {a : Option Addr} {c : Nat} (h : OwS f.sub K a c) (hn : f.nm.length ≤ 9223372036854775807) : OwF f K a c := (OwF_iff _ _ _ _).2 ⟨hn, (OwS_iff _ _ _ _).1 h⟩
theorem OwF.nm_le {f : Fld} {K : Own} {a : Option Addr} {c : Nat} (h : OwF f K a c) : f.nm.length ≤ 9223372036854775807 := ((OwF_iff _ _ _ _).1 h).1
theorem OwS.le {l : List Fld} {K : Own} {a : Option Addr} {c : Nat} (h : OwS l K a c) : l.length ≤ c ∧ c ≤ 9223372036854775807 := by
  rcases (OwS_iff _ _ _ _).1 h with ⟨rfl, _, rfl, _⟩ | ⟨b, cap, cs, xs, K', _, _, h1, h2, _, h3, _⟩
  · exact ⟨Nat.le_refl _, by omega⟩
  · exact ⟨h1, by omega⟩
theorem OwF.le {f : Fld} {K : Own} {a : Option Addr} {c : Nat} (h : OwF f K a c) : f.sub.length ≤ c ∧ c ≤ 9223372036854775807 := h.toS.le
theorem OwK.len : ∀ {l : List Fld} {K : Own} {cs : List Value}, OwK l K cs → cs.length = l.length * 7
  | [], K, cs, h => by rw [OwK] at h; rw [h.2]; rfl
  | f :: l, K, cs, h => by
    rw [OwK] at h
    obtain ⟨K1, K2, a, c, cs', _, rfl, _, h2⟩ := h
    have := OwK.len h2
    simp only [Fld.cells, List.length_append, List.length_cons, List.length_nil, this]
    omega
theorem OwK.one : ∀ {l : List Fld} {K : Own} {cs : List Value}, OwK l K cs → ∀ u ∈ cs, u.oneCell' = true
  | [], K, cs, h => by rw [OwK] at h; rw [h.2]; intro u hu; cases hu
  | f :: l, K, cs, h => by
    rw [OwK] at h
    obtain ⟨K1, K2, a, c, cs', _, rfl, _, h2⟩ := h
    intro u hu
    rcases List.mem_append.1 hu with hu | hu
    · simp only [Fld.cells, List.mem_cons, List.mem_nil_iff, or_false] at hu
      rcases hu with rfl | rfl | rfl | rfl | rfl | rfl | rfl <;> rfl
    · exact OwK.one h2 u hu
theorem OwK.append {m : List Fld} {K2 : Own} {ds : List Value} (hd : OwK m K2 ds) : ∀ {l : List Fld} {K1 : Own} {cs : List Value}, OwK l K1 cs → OwK (l ++ m) (K1 ++ K2) (cs ++ ds)
  | [], K1, cs, h => by rw [OwK] at h; obtain ⟨rfl, rfl⟩ := h; exact hd
  | f :: l, K1, cs, h => by
    rw [OwK] at h
    obtain ⟨A, B, a, c, cs', rfl, rfl, h1, h2⟩ := h
    rw [List.cons_append, OwK]
    exact ⟨A, B ++ K2, a, c, cs' ++ ds, by rw [List.append_assoc], by rw [List.append_assoc], h1, OwK.append hd h2⟩
theorem OwK.single {f : Fld} {K : Own} {a : Option Addr} {c : Nat} (h : OwF f K a c) : OwK [f] K (f.cells a c) := by
  rw [OwK]
  exact ⟨K, [], a, c, [], by simp, by simp, h, by rw [OwK]; exact ⟨rfl, rfl⟩⟩
theorem OwK.nil : OwK [] [] [] := by rw [OwK]; exact ⟨rfl, rfl⟩
/-- The i-th one apart. -/
theorem OwK.split {f : Fld} : ∀ {l : List Fld} {K : Own} {cs : List Value} (i : Nat), OwK l K cs → l[i]? = some f →
    ∃ (KA KF KB : Own) (a : Option Addr) (c : Nat) (ca cb : List Value), K = KA ++ (KF ++ KB) ∧ cs = ca ++ (f.cells a c ++ cb) ∧ OwK (l.take i) KA ca ∧ OwF f KF a c ∧ OwK (l.drop (i + 1)) KB cb
  | [], _, _, i, _, hi => by simp at hi
  | g :: l, K, cs, 0, h, hi => by
    simp only [List.getElem?_cons_zero, Option.some.injEq] at hi
    subst hi
    rw [OwK] at h
    obtain ⟨K1, K2, a, c, cs', rfl, rfl, h1, h2⟩ := h
    exact ⟨[], K1, K2, a, c, [], cs', rfl, rfl, by rw [List.take_zero]; exact .nil, h1, by simpa using h2⟩
  | g :: l, K, cs, i + 1, h, hi => by
    simp only [List.getElem?_cons_succ] at hi
    rw [OwK] at h
    obtain ⟨K1, K2, a, c, cs', rfl, rfl, h1, h2⟩ := h
    obtain ⟨KA, KF, KB, a2, c2, ca, cb, rfl, rfl, q1, q2, q3⟩ := OwK.split i h2 hi
    refine ⟨K1 ++ KA, KF, KB, a2, c2, g.cells a c ++ ca, cb, by rw [List.append_assoc], by rw [List.append_assoc], ?_, q2, by simpa using q3⟩
    rw [List.take_succ_cons, OwK]
    exact ⟨K1, KA, a, c, ca, rfl, rfl, h1, q1⟩
/-- Its first one apart. -/
theorem OwK.cons_inv {f : Fld} {l : List Fld} {K : Own} {cs : List Value} (h : OwK (f :: l) K cs) : ∃ (K1 K2 : Own) (a : Option Addr) (c : Nat) (cs' : List Value), K = K1 ++ K2 ∧ cs = f.cells a c ++ cs' ∧ OwF f K1 a c ∧ OwK l K2 cs' := by
  rw [OwK] at h; exact h
theorem OwK.cons {f : Fld} {l : List Fld} {K1 K2 : Own} {a : Option Addr} {c : Nat} {cs : List Value} (h : OwF f K1 a c) (h2 : OwK l K2 cs) : OwK (f :: l) (K1 ++ K2) (f.cells a c ++ cs) := by
  rw [OwK]; exact ⟨K1, K2, a, c, cs, rfl, rfl, h, h2⟩
theorem At.part {w : World} {b off : Nat} {x y : List Value} (h : At w b off (x ++ y)) : At w b off x ∧ At w b (off + x.length) y := by
  refine ⟨?_, h.sub x.length y (by simp)⟩
  have := h.sub 0 x (by simp)
  simpa using this
mutual
/-- It can be read in all worlds that hold these blocks. -/
theorem OwF.rdx {G : World → Prop} : ∀ (f : Fld) {K : Own} {a : Option Addr} {c : Nat}, OwF f K a c → (∀ w, G w → Held w K) → RdX G a f.sub
  | .mk nm nl k wd id ix sub, K, a, c, h, hG => by
    rw [OwF] at h
    obtain ⟨h1, ⟨rfl, rfl, rfl, rfl⟩ | ⟨b, cap, cs, xs, K', rfl, rfl, h2, h3, h4, h5, h6, h7, h8⟩⟩ := h
    · exact .nil _
    · refine OwK.rdx sub h8 (fun w hw p hp => hG w hw p (.tail _ hp)) (fun w hw => ⟨_, _, _, hG w hw _ (.head _), ?_⟩)
      have h9 := h8.len
      rw [List.drop_zero, h9]
      exact h7
theorem OwK.rdx {G : World → Prop} : ∀ (l : List Fld) {K : Own} {cs : List Value} {b off : Nat}, OwK l K cs → (∀ w, G w → Held w K) → (∀ w, G w → At w b off cs) → RdX G (some ⟨b, off, none⟩) l
  | [], _, _, _, _, _, _, _ => .nil _
  | f :: l, K, cs, b, off, h, hG, hat => by
    rw [OwK] at h
    obtain ⟨K1, K2, a, c, cs', rfl, rfl, h1, h2⟩ := h
    have hl := OwF.le h1
    exact .cons hl.1 h1.nm_le hl.2 (fun w hw => (At.part (hat w hw)).1) (OwF.rdx f h1 (fun w hw p hp => hG w hw p (List.mem_append_left _ hp))) (OwK.rdx l h2 (fun w hw p hp => hG w hw p (List.mem_append_right _ hp)) (fun w hw => (At.part (hat w hw)).2))
end
theorem OwS.rdx {G : World → Prop} {l : List Fld} {K : Own} {a : Option Addr} {c : Nat} (h : OwS l K a c) (hG : ∀ w, G w → Held w K) : RdX G a l := OwF.rdx _ h hG
theorem OwS.rd {l : List Fld} {K L : Own} {a : Option Addr} {c : Nat} {wb w : World} (h : OwS l K a c) (hw : Sy wb L w) (hK : ∀ p ∈ K, p ∈ L) : Rd w w.heap.size a l :=
  (h.rdx (G := fun w => Held w K) fun _ h => h).toRd (Held.of_sy hw hK)
theorem OwF.rd {f : Fld} {K L : Own} {a : Option Addr} {c : Nat} {wb w : World} (h : OwF f K a c) (hw : Sy wb L w) (hK : ∀ p ∈ K, p ∈ L) : Rd w w.heap.size a f.sub := h.toS.rd hw hK
mutual
/-- No list within is longer than this. -/
def wideF (n : Nat) : Fld → Bool
  | .mk _ _ _ _ _ _ sub => decide (sub.length ≤ n) && wideL n sub
def wideL (n : Nat) : List Fld → Bool
  | [] => true
  | f :: l => wideF n f && wideL n l
end
theorem wideF_iff (n : Nat) (f : Fld) : wideF n f = true ↔ f.sub.length ≤ n ∧ wideL n f.sub = true := by
  cases f; rw [wideF]; simp [Fld.sub]
theorem wideL_get {n : Nat} : ∀ {l : List Fld} {i : Nat} {f : Fld}, wideL n l = true → l[i]? = some f → wideF n f = true
  | [], i, f, _, h => by simp at h
  | g :: l, 0, f, h, hi => by
    rw [wideL, Bool.and_eq_true] at h
    simp only [List.getElem?_cons_zero, Option.some.injEq] at hi
    subst hi; exact h.1
  | g :: l, i + 1, f, h, hi => by
    rw [wideL, Bool.and_eq_true] at h
    exact wideL_get h.2 (by simpa using hi)
end Go.Proofs.YtdmdgkpjjpijdaaDoor
/- YtdmdgkpjjpijdaaDoor: walks, part 112: a field copied by the document's copy: each list in a block of its own. -/
namespace Go.Proofs.YtdmdgkpjjpijdaaDoor
open Go Go.K
set_option maxRecDepth 100000
set_option linter.unusedVariables false
set_option linter.unusedSimpArgs false
set_option maxHeartbeats 1600000
/-- make([]T, n). -/
theorem makeFullX {P : Program} {wb : World} {L : Own} {t e : TypeId} {z : Value} {size bytes n : Nat} {K : Value → World → Own → Prop} (kl kc : IntKind) (ht : P.underlying t = some (.slice e)) (hi : (P.info? e).map (fun i => (i.zero, i.size, i.bytes)) = some (some z, size, bytes)) (hzs : z.cells.size = size) (hb : bytes * n ≤ 281474976710656) (h63 : n ≤ 9223372036854775807)
    (h : ∀ (b : Nat) (cs : List Value), wb.heap.size ≤ b → b ∉ L.map (·.1) → cs.length = n * size → K (.slice (some ⟨b, 0, none⟩) n n) wb ((b, .cells cs.toArray e (0, 0)) :: L)) : ValX P (Instr.makeSlice t (.int kl (n : Int)) (.int kc (n : Int))) wb L (tag K) := by
  obtain ⟨inf, hinf, h1, h2, h3⟩ : ∃ inf, P.info? e = some inf ∧ inf.zero = some z ∧ inf.size = size ∧ inf.bytes = bytes := by
    cases hh : P.info? e with
    | none => rw [hh] at hi; cases hi
    | some inf => rw [hh] at hi; simp at hi; exact ⟨inf, rfl, hi.1, hi.2.1, hi.2.2⟩
  subst h2; subst h3
  refine valX_new (f := fun b => .slice (some ⟨b, 0, none⟩) n n) (o := .cells (Array.mk (madeCells z.cells (n * inf.size)).toList) e (0, 0)) (fun w => ?_) (newI fun b hb' hn => ?_)
  · have := run_make (P := P) w t e inf z ht hinf h1 kl kc (n : Int) (n : Int) (by omega) (by omega) (by
      have h : ((inf.bytes * n : Nat) : Int) ≤ 281474976710656 := by omega
      rwa [Int.natCast_mul] at h) (by omega)
    simpa using this
  · exact h b _ hb' hn (by simp [size_madeCells])
end Go.Proofs.YtdmdgkpjjpijdaaDoor
/- YtdmdgkpjjpijdaaDoor: walks, part 113: fields that their owner writes over in place. -/
namespace Go.Proofs.YtdmdgkpjjpijdaaDoor
open Go Go.K
set_option maxRecDepth 100000
set_option linter.unusedVariables false
set_option linter.unusedSimpArgs false
set_option maxHeartbeats 4000000
structure SpI (w0 : World) (b : Nat) (rest : List Value) (M : Own) (l : List Fld) (c : Nat) (mark : List UInt8) (tot : Nat) (i : Nat) (wb : World) (e : Env) (ds : List Deferred) (L : Own) : Prop where
  hw : wb = w0
  hds : ds = []
  o : ∃ (ld : List Fld) (Kd Kr : Own) (csd csr : List Value), L = (b, Obj.cells (csd ++ (csr ++ rest)).toArray 41 (0, 0)) :: (Kd ++ (Kr ++ M)) ∧ ld.length = i ∧ (∀ f ∈ ld, f.nm = mark) ∧ (∀ N, wideL N l = true → wideL N ld = true) ∧ OwK ld Kd csd ∧ OwK (l.drop i) Kr csr ∧ (csd ++ (csr ++ rest)).length = tot ∧ (∀ p ∈ Kd, w0.heap.size ≤ p.1) ∧ ∀ p ∈ Kr, w0.heap.size ≤ p.1
  hi : i ≤ l.length
  h0 : e 0 = .slice (some ⟨b, 0, none⟩) l.length c
  h1 : e 1 = str mark
  h6 : e 6 = i64 l.length
  h7 : e 7 = i64 i
structure SpE (w0 : World) (KM : Own) (wb : World) (e : Env) (ds : List Deferred) (L : Own) : Prop where
  hw : wb = w0
  hds : ds = []
  o : L = KM
  h6 : e 6 = i64 0
  h7 : e 7 = i64 0
theorem wideL_append (N : Nat) : ∀ (a b : List Fld), wideL N (a ++ b) = (wideL N a && wideL N b)
  | [], b => by rw [wideL]; simp
  | f :: a, b => by rw [List.cons_append, wideL, wideL, wideL_append N a b, Bool.and_assoc]
theorem get_midF {A B C : List Value} {n k : Nat} {v : Value} (hA : A.length = n) (h : B[k]? = some v) : (A ++ (B ++ C))[n + k]? = some v := by
  subst hA
  have hk := (List.getElem?_eq_some_iff.1 h).1
  rw [List.getElem?_append_right (by omega), Nat.add_sub_cancel_left, List.getElem?_append_left hk, h]
theorem splice_inF {A X R vs : List Value} {n : Nat} (hA : A.length = n) (h : vs.length = X.length) : splice (A ++ (X ++ R)) n vs = A ++ (vs ++ R) := by
  subst hA
  unfold splice
  rw [List.take_left, h, ← List.drop_drop, List.drop_left, List.drop_left]
end Go.Proofs.YtdmdgkpjjpijdaaDoor
/- YtdmdgkpjjpijdaaDoor: walks, part 114: fields are put behind lists of one's own; the lists stay. -/
namespace Go.Proofs.YtdmdgkpjjpijdaaDoor
open Go Go.K
set_option maxRecDepth 100000
set_option linter.unusedVariables false
set_option linter.unusedSimpArgs false
set_option maxHeartbeats 4000000
/-- A row that grows out of a list that stays: still in that list's block, or in one of its own. -/
def RowK (wb : World) (e : TypeId) (size : Nat) (P0 : Own → Prop) (L M : Own) (v : Value) (n : Nat) (xs : List Value) : Prop :=
  (xs.length = n * size ∧ ∃ (b c : Nat) (cs : List Value), v = .slice (some ⟨b, 0, none⟩) n c ∧ L = (b, Obj.cells cs.toArray e (0, 0)) :: M ∧ n ≤ c ∧ c ≤ maxLen ∧ c * size ≤ cs.length ∧ cs.take (n * size) = xs ∧ ∀ cs' : List Value, cs'.length = cs.length → cs'.take (n * size) = xs → P0 [(b, Obj.cells cs'.toArray e (0, 0))]) ∨
    (∃ M0 : Own, P0 M0 ∧ RowO wb e size L (M0 ++ M) v n xs)
theorem RowK.over {wb : World} {e : TypeId} {size n : Nat} {P0 : Own → Prop} {L M : Own} {v : Value} {xs : List Value} (p : Nat × Obj) (h : RowK wb e size P0 L M v n xs) : ∃ L'', RowK wb e size P0 L'' (p :: M) v n xs ∧ ∀ w, Sy wb (p :: L) w → Sy wb L'' w := by
  rcases h with ⟨h0, b, c, cs, rfl, rfl, h1⟩ | ⟨M0, h1, h2⟩
  · exact ⟨_, .inl ⟨h0, b, c, cs, rfl, rfl, h1⟩, fun w hw => hw.perm (List.Perm.swap _ _ _)⟩
  · obtain ⟨L2, q1, q2⟩ := RowO.over p h2
    obtain ⟨R, rfl, hR⟩ := RowO.unframe q1
    exact ⟨R ++ (M0 ++ p :: M), .inr ⟨M0, h1, RowO.frame hR⟩, fun w hw => (q2 w hw).perm (List.Perm.append_left R List.perm_middle.symm)⟩
theorem RowK.shrink {wb : World} {e : TypeId} {size n : Nat} {P0 : Own → Prop} {L M : Own} {v : Value} {xs : List Value} (p : Nat × Obj) (h : RowK wb e size P0 L (p :: M) v n xs) (hp : wb.heap.size ≤ p.1) : ∃ L'', RowK wb e size P0 L'' M v n xs ∧ ∀ w, Sy wb L w → Sy wb L'' w := by
  rcases h with ⟨h0, b, c, cs, rfl, rfl, h1⟩ | ⟨M0, h1, h2⟩
  · exact ⟨_, .inl ⟨h0, b, c, cs, rfl, rfl, h1⟩, fun w hw => hw.mid [_] [p] (fun q hq => by rw [List.mem_singleton.1 hq]; exact hp)⟩
  · obtain ⟨R, rfl, hR⟩ := RowO.unframe h2
    refine ⟨R ++ (M0 ++ M), .inr ⟨M0, h1, RowO.frame hR⟩, fun w hw => ?_⟩
    rw [← List.append_assoc] at hw ⊢
    exact hw.mid (R ++ M0) [p] (fun q hq => by rw [List.mem_singleton.1 hq]; exact hp)
theorem RowK.new {wb : World} {e : TypeId} {size n : Nat} {P0 : Own → Prop} {L M : Own} {v : Value} {xs : List Value} (h : RowK wb e size P0 L M v n xs) (hP : ∀ M0, P0 M0 → ∀ p ∈ M0, wb.heap.size ≤ p.1) (hM : ∀ p ∈ M, wb.heap.size ≤ p.1) : ∀ p ∈ L, wb.heap.size ≤ p.1 := by
  rcases h with ⟨h0, b, c, cs, rfl, rfl, h1⟩ | ⟨M0, h1, h2⟩
  · intro p hp
    rcases List.mem_cons.1 hp with rfl | hp
    · exact hP _ (h1.2.2.2.2 cs rfl h1.2.2.2.1) _ (.head _)
    · exact hM p hp
  · refine RowO.new h2 fun p hp => ?_
    rcases List.mem_append.1 hp with hp | hp
    · exact hP _ h1 p hp
    · exact hM p hp
theorem RowK.ends {wb : World} {e : TypeId} {size n : Nat} {P0 : Own → Prop} {L M : Own} {v : Value} {xs : List Value} (h : RowK wb e size P0 L M v n xs) : ∃ M0, P0 M0 ∧ ∀ w, Sy wb L w → Sy wb (M0 ++ M) w := by
  rcases h with ⟨h0, b, c, cs, rfl, rfl, h1, h2, h3, h4, h5⟩ | ⟨M0, h1, h2⟩
  · exact ⟨_, h5 cs rfl h4, fun w hw => hw⟩
  · obtain ⟨h0, ⟨q1, q2, q3⟩ | ⟨b, cap, cs, q1, q2, q3, _⟩⟩ := h2
    · exact ⟨M0, h1, fun w hw => by rw [← q3]; exact hw⟩
    · refine ⟨M0, h1, fun w hw => ?_⟩
      rw [q2] at hw
      exact hw.left (A := [_]) (fun p hp => by rw [List.mem_singleton.1 hp]; exact q3)
/-- append to such a row. -/
theorem appendK {P : Program} {wb : World} {L M : Own} {P0 : Own → Prop} {t ty e : TypeId} {z : Value} {size bytes n m c : Nat} {v : Value} {xs news : List Value} {a : Addr} {K : Value → World → Own → Prop}
    (ht : P.underlying t = some (.slice e)) (hi : (P.info? e).map (fun i => (i.zero, i.size, i.bytes)) = some (some z, size, bytes)) (hzs : z.cells.size = size) (hsz0 : 0 < size) (hm : 0 < m)
    (hrow : RowK wb e size P0 L M v n xs) (hl : news.length = m * size) (hr : CanRead wb L a news) (h1 : ∀ u ∈ news, u.oneCell' = true) (h63 : n + m ≤ maxLen) (hbytes : (n + m) * bytes ≤ 140737488355328)
    (hK : ∀ v' L', RowK wb e size P0 L' M v' (n + m) (xs ++ news) → K v' wb L') : ValX P (Builtin.append_ #[t, t] ty #[v, .slice (some a) m c]) wb L (tag K) := by
  rcases hrow with ⟨hxl, b, c0, cs, rfl, rfl, hnc, hcm, hcl, hct, hP⟩ | ⟨M0, hP, hro⟩
  · obtain ⟨inf, hinf, i1, i2, i3⟩ : ∃ inf, P.info? e = some inf ∧ inf.zero = some z ∧ inf.size = size ∧ inf.bytes = bytes := by
      cases hh : P.info? e with
      | none => rw [hh] at hi; cases hi
      | some inf => rw [hh] at hi; simp at hi; exact ⟨inf, rfl, hi.1, hi.2.1, hi.2.2⟩
    subst i2; subst i3
    have h63' : ((n + m : Nat) : Int) ≤ 9223372036854775807 := by simp only [maxLen] at h63; omega
    intro w hw
    have hnews := hr w hw
    have hbo := hw.own b _ (List.mem_cons_self ..)
    have hcells : ∀ j u, xs[j]? = some u → w.cell? ((⟨b, 0, none⟩ : Addr).add j) = some u := by
      intro j u hu
      have hadd : (⟨b, 0, none⟩ : Addr).add j = ⟨b, j, none⟩ := by unfold Addr.add; split <;> simp_all
      rw [hadd]
      simp only [World.cell?, hbo]
      rw [← hct, List.getElem?_take] at hu
      split at hu
      · simpa using hu
      · cases hu
    rcases Nat.lt_or_ge c0 (n + m) with hg | hroom
    · have hrun := run_append_grow (P := P) w t ty e inf z ht hinf i1 ⟨b, 0, none⟩ n c0 xs hxl hcells a m c news hl hnews hg h63' (growslice_fits hg hbytes)
      have hge := grownCap_ge w (n + m) c0 e
      have hle := grownCap_le_maxLen w (n + m) c0 e h63
      refine ⟨_, _, wb, (w.heap.size, .cells (xs.toArray ++ news.toArray ++ Builtin.zeroCells z.cells (grownCap w (n + m) c0 e - (n + m))) e) :: (b, Obj.cells cs.toArray e (0, 0)) :: M, hrun, hw.drewn.new _, hK _ _ (.inr ⟨[(b, Obj.cells cs.toArray e (0, 0))], hP cs rfl hct, ⟨by simp [hxl, hl, Nat.add_mul], .inr ⟨w.heap.size, grownCap w (n + m) c0 e, xs ++ news ++ (Builtin.zeroCells z.cells (grownCap w (n + m) c0 e - (n + m))).toList, rfl, ?_, hw.size, hge, hle, ?_, ?_⟩⟩⟩)⟩
      · simp
      · rw [List.length_append, List.length_append, hxl, hl, Array.length_toList, zeroCells_length, hzs, ← Nat.add_mul, ← Nat.add_mul, Nat.add_sub_cancel' hge]
      · rw [Nat.add_mul, ← hxl, ← hl, ← List.length_append, List.take_left]
    · have hfit : n * inf.size + news.length ≤ cs.length := by rw [hl, ← Nat.add_mul]; exact Nat.le_trans (Nat.mul_le_mul_right _ hroom) hcl
      have hrun := run_append_room (P := P) w t ty e inf ht hinf b n c0 cs.toArray hbo a m c news hl hnews h1 hroom (by simpa using hfit)
      have hlen2 : (xs ++ news ++ cs.drop (n * inf.size + news.length)).length = cs.length := by
        simp only [List.length_append, List.length_drop, hxl]; omega
      refine ⟨_, _, wb, (b, .cells (xs ++ news ++ cs.drop (n * inf.size + news.length)).toArray e (0, 0)) :: M, hrun, ?_, hK _ _ (.inl ⟨by simp [hxl, hl, Nat.add_mul], b, c0, xs ++ news ++ cs.drop (n * inf.size + news.length), rfl, rfl, hroom, hcm, by rw [hlen2]; exact hcl, ?_, fun cs' q1 q2 => hP cs' (by rw [q1, hlen2]) ?_⟩)⟩
      · have h2 := hw.set (i := 0) (b := b) (o := .cells cs.toArray e (0, 0)) (.cells (xs ++ news ++ cs.drop (n * inf.size + news.length)).toArray e (0, 0)) (by simp)
        simp only [List.set_cons_zero] at h2
        have h3 : w.setRow b (cs.toArray.toList.take (n * inf.size) ++ news ++ cs.toArray.toList.drop (n * inf.size + news.length)).toArray = { w with heap := w.heap.setIfInBounds b (.cells (xs ++ news ++ cs.drop (n * inf.size + news.length)).toArray e (0, 0)) } := by
          unfold World.setRow
          congr 1
          apply Array.ext_getElem?
          intro j
          rw [Array.getElem?_modify, Array.getElem?_setIfInBounds]
          have hlt := (Array.getElem?_eq_some_iff.1 hbo).1
          split
          · rename_i hj; subst hj; rw [hbo]; simp [hct, hlt]
          · rfl
        rw [h3]; exact h2
      · rw [Nat.add_mul, ← hxl, ← hl, ← List.length_append, List.take_left]
      · have : cs'.take (n * inf.size) = (cs'.take ((n + m) * inf.size)).take (n * inf.size) := by
          rw [List.take_take, Nat.min_eq_left (Nat.mul_le_mul_right _ (Nat.le_add_right _ _))]
        rw [this, q2, ← hxl, List.take_left]
  · exact appendI ht hi hzs hro hl hr h1 h63 hbytes (fun v' L' h _ => hK v' L' (.inr ⟨M0, hP, h⟩))
end Go.Proofs.YtdmdgkpjjpijdaaDoor
/- YtdmdgkpjjpijdaaDoor: walks, part 117: a loop over a function within a loop over a function. -/
namespace Go.Proofs.YtdmdgkpjjpijdaaDoor
open Go Go.K
set_option maxRecDepth 100000
set_option linter.unusedVariables false
set_option linter.unusedSimpArgs false
theorem run_enterLoop_in {P : Program} {w : World} {l₀ : Nat} {r₀ : Loop} (h : w.heap[l₀]? = some (.loop r₀)) (fn : FuncId) (tmps : Array Value) (ps : Array Tmp) (assign body : Code) :
    (Instr.enterLoop fn tmps ps assign body (some l₀)).run P w = .ok (w.heap.size, []) { w with heap := w.heap.push (.loop { state := .ready, pending := none, fn, tmps, params := ps, assign, body, defers := r₀.defers }) } := by
  unfold Instr.enterLoop
  simp only [Sem.run_bind, run_getLoop h, run_newObj_alloc, Result.andThen, Sem.run_pure]
  rfl
theorem rangeZ {c : Cfg} {wb : World} {L : Own} {fo : Operand} {ps : List Nat} {A B : Code} {Q : Post} {e : Env} {ds : List Deferred} {g : FuncId} {first cap : Array Value} {l0 : Nat} {r0 : Loop} (hc : c.r = some l0) (h0 : (l0, Obj.loop r0) ∈ L) (hf : ev e fo = .func (.func g) first cap) (hen : entersB c.P g = true)
    (h : ∀ fn tm l rec, rec = (⟨.ready, none, fn, tm, ps.toArray, A, B, r0.defers⟩ : Loop) → Rep c.n { tmps := tm, defers := [] } e [] → wb.heap.size ≤ l → l ∉ L.map (·.1) → ∀ w, Sy wb ((l, .loop rec) :: L) w →
      Calls c.P g (first ++ #[.func (.yield l) #[] #[]] ++ cap) w (loopEnd l Q e ds)) :
    SemT c (tag (.rangeFunc fo ps.toArray A B)) (tag Q) wb e ds L := by
  intro a w hr hw
  refine wpIn_rangeFunc fun fn hfn => ?_
  have hw1 := hw.new (.loop ⟨.ready, none, fn, a.tmps, ps.toArray, A, B, r0.defers⟩)
  have hsz := hw.size
  generalize hW : ({ w with heap := w.heap.push (.loop { state := .ready, pending := none, fn := fn, tmps := a.tmps, params := ps.toArray, assign := A, body := B, defers := r0.defers }) } : World) = W at hw1
  refine ⟨w.heap.size, [], W, { target := .fn (.func g) cap, args := first ++ #[.func (.yield w.heap.size) #[] #[]] }, W, g, first ++ #[.func (.yield w.heap.size) #[] #[]] ++ cap, W,
    (by rw [show c.F.round = some l0 from hc, ← hW]; exact run_enterLoop_in (P := c.P) (w := w) (hw.own _ _ h0) fn a.tmps ps.toArray A B), ?_, fun _ _ => trivial, ?_, fun h => by simp [Cfg.F, Fence.wide] at h, ?_⟩
  · simp only [resolve, rangeCall, Sem.run_bind, hr.eval, hf, Deferred.ofValue, Sem.run_pure, Result.andThen_ok]
    simp [ev]
  · simp only [invoke]
    exact enters_run hen _ _
  · refine callsIn_of ((h fn a.tmps w.heap.size _ rfl ⟨hr.size, hr.get, rfl⟩ hsz hw.fresh _ hw1).mono ?_)
    intro en w' hq
    cases en with
    | returned v =>
      obtain ⟨wb', L', i, rec, hi, hb, hsy, hj⟩ := hq
      refine ⟨_, _, run_endLoop (hsy.loop_run hi) hb, ?_⟩
      have hsy' := hsy.put (.loop { rec with state := .exhausted }) hi
      have hrep : Rep c.n { a with defers := [] ++ a.defers } e ds := ⟨hr.size, hr.get, by simp [hr.defers]⟩
      revert hsy' hj
      cases hp : rec.pending with
      | none => intro hj hsy'; exact ⟨wb', e, _, _, hrep, hsy', hj⟩
      | some cd =>
        intro hj hsy'
        cases cd with
        | ret => exact wpIn_ret ⟨wb', e, _, _, hrep, hsy', hj⟩
        | exit id => exact wpIn_exit ⟨wb', e, _, _, hrep, hsy', hj⟩
        | _ => exact (show False from hj).elim
    | panicked ch => exact hq.elim
    | outgrown => exact hq.elim
end Go.Proofs.YtdmdgkpjjpijdaaDoor
/- YtdmdgkpjjpijdaaDoor: walks, part 116: Grow: fields are put behind lists of one's own, one after the other; the lists stay. -/
namespace Go.Proofs.YtdmdgkpjjpijdaaDoor
open Go Go.K
set_option maxRecDepth 100000
set_option linter.unusedVariables false
set_option linter.unusedSimpArgs false
set_option maxHeartbeats 4000000
theorem RowK.reads {wb : World} {e ty : TypeId} {size n : Nat} {P0 : Own → Prop} {L M : Own} {v : Value} {xs vs : List Value} {b : Nat} (h : RowK wb e size P0 L ((b, Obj.cells vs.toArray ty (0, 0)) :: M) v n xs) : CanRead wb L ⟨b, 0, none⟩ vs := by
  refine CanRead.of_own (e := ty) (cs := vs) (n := vs.length) ?_ rfl (List.take_length ..)
  rcases h with ⟨h0, b0, c, cs, rfl, rfl, h1⟩ | ⟨M0, h1, h2⟩
  · exact .tail _ (.head _)
  · exact RowO.mem h2 (List.mem_append_right _ (.head _))
structure GwI (w0 : World) (b : Nat) (cs xs : List Value) (M : Own) (l : List Fld) (c : Nat) (mark : List UInt8) (i : Nat) (wb : World) (e : Env) (ds : List Deferred) (L : Own) : Prop where
  hw : wb = w0
  hds : ds = []
  o : ∃ (Kd Kr : Own) (csd csr : List Value), L = (b, Obj.cells cs.toArray 41 (0, 0)) :: (Kd ++ (Kr ++ M)) ∧ csd ++ csr = xs ∧ OwK (l.take i) Kd csd ∧ OwK (l.drop i) Kr csr ∧ (∀ p ∈ Kd, w0.heap.size ≤ p.1) ∧ ∀ p ∈ Kr, w0.heap.size ≤ p.1
  hi : i ≤ l.length
  h0 : e 0 = .slice (some ⟨b, 0, none⟩) l.length c
  h1 : e 1 = str mark
  h8 : e 8 = i64 l.length
  h9 : e 9 = i64 i
structure GwE (w0 : World) (KM : Own) (mark : List UInt8) (wb : World) (e : Env) (ds : List Deferred) (L : Own) : Prop where
  hw : wb = w0
  hds : ds = []
  o : L = KM
  h0 : e 0 = .slice none 0 0
  h1 : e 1 = str mark
  h8 : e 8 = i64 0
  h9 : e 9 = i64 0
structure Gw2I (w0 : World) (mark : List UInt8) (P0 : Own → Prop) (M : Own) (n0 : Nat) (k : Nat) (wb : World) (e : Env) (ds : List Deferred) (L : Own) : Prop where
  hw : wb = w0
  hds : ds = []
  o : ∃ (v : Value) (xs : List Value), e 5 = v ∧ RowK w0 41 7 P0 L M v (n0 + k) xs
  hk : k ≤ 20
  h1 : e 1 = str mark
  h6 : e 6 = i64 k
end Go.Proofs.YtdmdgkpjjpijdaaDoor
