/- YtjkogfiidhjpcaaDoor: walks, part 103: values of their own memory, with marks behind each of their lists. -/
import Derived.Test.YtjkogfiidhjpcaaDoorW84
namespace Go.Proofs.YtjkogfiidhjpcaaDoor
open Go Go.K
set_option maxRecDepth 100000
set_option linter.unusedVariables false
set_option linter.unusedSimpArgs false
set_option maxHeartbeats 4000000
/-- The two values that stand behind each list. -/
abbrev marksC : List Value := [.bool false, i64 (-7), str [], .slice none 0 0, .bool false, i64 (-8), str [], .slice none 0 0]
mutual
/-- The lists of a value lie in these blocks alone, each in its own one. -/
def OwV : Vl → Own → Option Addr → Nat → Prop
  | .mk _ num tx ls, K, a, c => tx.length ≤ 9223372036854775807 ∧ (-9223372036854775808 ≤ num ∧ num < 9223372036854775808) ∧ ∃ (b : Nat) (cs rest : List Value) (K' : Own), a = some ⟨b, 0, none⟩ ∧ K = (b, Obj.cells (cs ++ (marksC ++ rest)).toArray 29 (0, 0)) :: K' ∧ KidV ls K' cs ∧ ls.length + 2 ≤ c ∧ c ≤ 9223372036854775807 ∧ (cs ++ (marksC ++ rest)).length = c * 4
def KidV : List Vl → Own → List Value → Prop
  | [], K, cs => K = [] ∧ cs = []
  | v :: l, K, cs => ∃ (K1 K2 : Own) (a : Option Addr) (c : Nat) (cs' : List Value), K = K1 ++ K2 ∧ cs = v.cells a c ++ cs' ∧ OwV v K1 a c ∧ KidV l K2 cs'
end
theorem OwV_iff (v : Vl) (K : Own) (a : Option Addr) (c : Nat) : OwV v K a c ↔ v.tx.length ≤ 9223372036854775807 ∧ (-9223372036854775808 ≤ v.num ∧ v.num < 9223372036854775808) ∧ ∃ (b : Nat) (cs rest : List Value) (K' : Own), a = some ⟨b, 0, none⟩ ∧ K = (b, Obj.cells (cs ++ (marksC ++ rest)).toArray 29 (0, 0)) :: K' ∧ KidV v.ls K' cs ∧ v.ls.length + 2 ≤ c ∧ c ≤ 9223372036854775807 ∧ (cs ++ (marksC ++ rest)).length = c * 4 := by
  cases v; rw [OwV]; rfl
theorem KidV.len : ∀ {ls : List Vl} {K : Own} {cs : List Value}, KidV ls K cs → cs.length = ls.length * 4
  | [], K, cs, h => by rw [KidV] at h; rw [h.2]; rfl
  | v :: l, K, cs, h => by
    rw [KidV] at h
    obtain ⟨K1, K2, a, c, cs', _, rfl, _, h2⟩ := h
    have := KidV.len h2
    simp only [Vl.cells, List.length_append, List.length_cons, List.length_nil, this]
    omega
theorem At.split {w : World} {b off : Nat} {x y : List Value} (h : At w b off (x ++ y)) : At w b off x ∧ At w b (off + x.length) y := by
  refine ⟨?_, h.sub x.length y (by simp)⟩
  have := h.sub 0 x (by simp)
  simpa using this
mutual
theorem OwV.at_ {wb w : World} {L : Own} (hw : Sy wb L w) : ∀ (v : Vl) {K : Own} {a : Option Addr} {c : Nat}, OwV v K a c → (∀ p ∈ K, p ∈ L) → VAt w w.heap.size v a c
  | .mk nu num tx ls, K, a, c, h, hK => by
    rw [OwV] at h
    obtain ⟨h1, h2, b, cs, rest, K', rfl, rfl, h3, h4, h5, h6⟩ := h
    have hm : (b, Obj.cells (cs ++ (marksC ++ rest)).toArray 29 (0, 0)) ∈ L := hK _ (.head _)
    have hat : At w b 0 cs := At.of_own hw hm (by simp)
    refine ⟨KidV.rd hw ls h3 (fun p hp => hK p (.tail _ hp)) (hw.lt hm) hat, ?_, h5, h1, h2⟩
    show ls.length ≤ c
    omega
theorem KidV.rd {wb w : World} {L : Own} (hw : Sy wb L w) : ∀ (ls : List Vl) {K : Own} {cs : List Value} {b off : Nat}, KidV ls K cs → (∀ p ∈ K, p ∈ L) → b < w.heap.size → At w b off cs → RdV w w.heap.size (some ⟨b, off, none⟩) ls
  | [], K, cs, b, off, h, hK, hb, hat => .nil _
  | v :: l, K, cs, b, off, h, hK, hb, hat => by
    rw [KidV] at h
    obtain ⟨K1, K2, a, c, cs', rfl, rfl, h1, h2⟩ := h
    have h3 := OwV.at_ hw v h1 (fun p hp => hK p (List.mem_append_left _ hp))
    obtain ⟨q1, q2⟩ := At.split hat
    exact .cons hb h3.hc h3.hc2 h3.ht h3.hn q1 h3.hr (KidV.rd hw l h2 (fun p hp => hK p (List.mem_append_right _ hp)) hb q2)
end
theorem KidV.one : ∀ {ls : List Vl} {K : Own} {cs : List Value}, KidV ls K cs → ∀ u ∈ cs, u.oneCell' = true
  | [], K, cs, h => by rw [KidV] at h; rw [h.2]; intro u hu; cases hu
  | v :: l, K, cs, h => by
    rw [KidV] at h
    obtain ⟨K1, K2, a, c, cs', _, rfl, _, h2⟩ := h
    intro u hu
    rcases List.mem_append.1 hu with hu | hu
    · simp only [Vl.cells, List.mem_cons, List.mem_nil_iff, or_false] at hu
      rcases hu with rfl | rfl | rfl | rfl <;> rfl
    · exact KidV.one h2 u hu
theorem KidV.append {m : List Vl} {K2 : Own} {ds : List Value} (hd : KidV m K2 ds) : ∀ {l : List Vl} {K1 : Own} {cs : List Value}, KidV l K1 cs → KidV (l ++ m) (K1 ++ K2) (cs ++ ds)
  | [], K1, cs, h => by rw [KidV] at h; obtain ⟨rfl, rfl⟩ := h; exact hd
  | v :: l, K1, cs, h => by
    rw [KidV] at h
    obtain ⟨A, B, a, c, cs', rfl, rfl, h1, h2⟩ := h
    rw [List.cons_append, KidV]
    exact ⟨A, B ++ K2, a, c, cs' ++ ds, by rw [List.append_assoc], by rw [List.append_assoc], h1, KidV.append hd h2⟩
theorem KidV.single {v : Vl} {K : Own} {a : Option Addr} {c : Nat} (h : OwV v K a c) : KidV [v] K (v.cells a c) := by
  rw [KidV]
  exact ⟨K, [], a, c, [], by simp, by simp, h, by rw [KidV]; exact ⟨rfl, rfl⟩⟩
end Go.Proofs.YtjkogfiidhjpcaaDoor
