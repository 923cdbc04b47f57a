/- YtilejcofleeeiaaGreatDoor: walks, part 81: strings of the library: utf8.ValidString and strings.Compare by the shelf's contracts (their layings are written by the kit's lay-plain.mjs). -/
import Derived.Test.YtilejcofleeeiaaGreatDoorW220
import Derived.Shelf.Unicode.ValidAny
import Derived.Shelf.Small.Strs
namespace Go.K
open Go
/-- []byte(s) -/
theorem convN {P : Program} {wb : World} {L : Own} {src dst e : TypeId} (s : List UInt8) {K : Value → World → Own → Prop} (hs : P.underlying src = some .string) (hd : P.underlying dst = some (.slice e)) (he : P.underlying e = some (.int .u8))
    (h : ∀ (b cap : Nat) (cs : List Value) (fr : Nat × Nat), wb.heap.size ≤ b → b ∉ L.map (·.1) → (∀ (i : Nat) (c : UInt8), s[i]? = some c → cs[i]? = some (.int .u8 c.toNat)) → K (.slice (some ⟨b, 0, none⟩) s.length cap) wb ((b, .cells cs.toArray e fr) :: L)) :
    ConvX P src dst (str s) wb L (tag K) := by
  intro w hw
  have hr := run_bytes_of_string w src dst e ⟨s.toArray⟩ hs hd he
  have hsz : (⟨s.toArray⟩ : ByteArray).size = s.length := by show s.toArray.size = _; simp
  rw [hsz] at hr
  refine ⟨_, _, wb, _, hr, (hw.drew).new _, ?_⟩
  have h1 := h w.heap.size (grownCap w s.length 0 e) (bytesRow ⟨s.toArray⟩ (grownCap w s.length 0 e)).toList ((bytesRow ⟨s.toArray⟩ (grownCap w s.length 0 e)).size, (bytesRow ⟨s.toArray⟩ (grownCap w s.length 0 e)).size + 1) hw.size hw.fresh (fun i c hc => by
    have hi := (List.getElem?_eq_some_iff.1 hc).1
    have h2 := bytesRow_at ⟨s.toArray⟩ (grownCap w s.length 0 e) i (by show i < s.toArray.size; simpa using hi)
    rw [Array.getElem?_toList, h2]
    have h3 := (List.getElem?_eq_some_iff.1 hc).2
    simp [h3])
  exact h1
end Go.K
namespace Go.Proofs.YtilejcofleeeiaaGreatDoor
open Go Go.K
set_option maxRecDepth 100000
set_option linter.unusedVariables false
set_option linter.unusedSimpArgs false
set_option maxHeartbeats 4000000
theorem wu64 {n : Int} (h0 : 0 ≤ n) (h1 : n < 18446744073709551616) : IntKind.u64.wrap n = n := by rw [IntKind.wrap_u64]; omega
/-- A letter, its great form as the small one. -/
def lowB (c : UInt8) : Int := bits .or .u8 (c.toNat : Int) 32
theorem lower_walk (w : World) (c : UInt8) : Calls Tryz.prog 154 #[.int .u8 c.toNat] w (Rets w (Is (.int .u8 (lowB c)))) := by
  refine enterT (args := [.int .u8 c.toNat]) Tryz.func154 rfl Tryz.ntmps154 (congrArg Array.toList Tryz.results154) (by kernel_rfl) (by simp) (Sy.refl w) ?_
  simp (disch := omega) only [push_cast, Nat.reduceEqDiff]
  refine ⟨.int .u8 (lowB c), fun w => rfl, ?_⟩
  simp (disch := omega) only [push_cast, Nat.reduceEqDiff]
  exact finIs (by simp) rfl
/-- What a digit of a base up to 36 is worth. -/
def dig36 (c : UInt8) : Option Nat := if 48 ≤ c.toNat ∧ c.toNat ≤ 57 then some (c.toNat - 48) else if 97 ≤ lowB c ∧ lowB c ≤ 122 then some (lowB c - 87).toNat else none
def parse16 : List UInt8 → Nat → Option Nat
  | [], acc => some acc
  | c :: r, acc => match dig36 c with
    | none => none
    | some d => if 16 ≤ d ∨ 1152921504606846976 ≤ acc then none else parse16 r (acc * 16 + d)
/-- What internal/strconv.ParseUint answers at base 16. -/
def P16S (s : List UInt8) (v : Value) : Prop := (∃ u : Nat, u < 18446744073709551616 ∧ s ≠ [] ∧ parse16 s 0 = some u ∧ v = .tuple #[.int .u64 u, .nilIface]) ∨ ((s = [] ∨ parse16 s 0 = none) ∧ ∃ n k : Int, 0 ≤ n ∧ n < 18446744073709551616 ∧ (k = 1 ∨ k = 2) ∧ v = .tuple #[.int .u64 n, .iface 185 (i64 k)])
structure P16I (w0 : World) (s : List UInt8) (b cap : Nat) (fr : Nat × Nat) (cs : List Value) (i acc : Nat) (wb : World) (e : Env) (ds : List Deferred) (L : Own) : Prop where
  hw : wb = w0
  hds : ds = []
  o : L = [(b, Obj.cells cs.toArray 5 fr)]
  hi : i ≤ s.length
  ha : acc < 18446744073709551616
  hp : parse16 s 0 = parse16 (s.drop i) acc
  h1 : e 1 = i64 16
  h8 : e 8 = .bool false
  h10 : e 10 = .int .u64 1152921504606846976
  h11 : e 11 = .int .u64 18446744073709551615
  h12 : e 12 = .bool false
  h13 : e 13 = .int .u64 acc
  h99 : e 99 = .slice (some ⟨b, 0, none⟩) s.length cap
  h100 : e 100 = i64 s.length
  h101 : e 101 = i64 i
structure P16A (w0 : World) (s : List UInt8) (b cap : Nat) (fr : Nat × Nat) (cs : List Value) (i acc : Nat) (c : UInt8) (wb : World) (e : Env) (ds : List Deferred) (L : Own) : Prop where
  hw : wb = w0
  hds : ds = []
  o : L = [(b, Obj.cells cs.toArray 5 fr)]
  h1 : e 1 = i64 16
  h8 : e 8 = .bool false
  h10 : e 10 = .int .u64 1152921504606846976
  h11 : e 11 = .int .u64 18446744073709551615
  h12 : e 12 = .bool false
  h13 : e 13 = .int .u64 acc
  h16 : ∃ d, dig36 c = some d ∧ d < 256 ∧ e 16 = .int .u8 (d : Int)
  h99 : e 99 = .slice (some ⟨b, 0, none⟩) s.length cap
  h100 : e 100 = i64 s.length
  h101 : e 101 = i64 i
theorem P16S.no {s : List UInt8} (h : parse16 s 0 = none) {n k : Int} (h0 : 0 ≤ n) (h1 : n < 18446744073709551616) (hk : k = 1 ∨ k = 2) : P16S s (.tuple #[.int .u64 n, .iface 185 (i64 k)]) := .inr ⟨.inr h, n, k, h0, h1, hk, rfl⟩
theorem parse16_in (w : World) (s : List UInt8) (hs : s.length ≤ 1000000) : Calls Tryz.prog 132 #[str s, i64 16, i64 64] w (Rets w fun v _ => P16S s v) := by
  refine enterT (args := [str s, i64 16, i64 64]) Tryz.func132 rfl Tryz.ntmps132 (congrArg Array.toList Tryz.results132) (by kernel_rfl) (by simp) (Sy.refl w) ?_
  simp (disch := omega) only [push_cast, Nat.reduceEqDiff]
  rw [V_cond]
  simp (disch := omega) only [push_cast, Nat.reduceEqDiff]
  refine condX_d (fun h0 => ?_) (fun h0 => ?_)
  · simp (disch := omega) only [push_cast, Nat.reduceEqDiff]
    exact finEx (by simp) (fun w' hw' => .inr ⟨.inl h0, 0, 2, by decide, by decide, .inr rfl, rfl⟩)
  simp (disch := omega) only [push_cast, Nat.reduceEqDiff, Int.reduceLE, Int.reduceEq, Int.reduceLT, decide_true, decide_false]
  rw [V_block]
  simp (disch := omega) only [push_cast, Nat.reduceEqDiff, Int.reduceLE, Int.reduceEq, Int.reduceLT, decide_true, decide_false]
  rw [V_cond]
  simp (disch := omega) only [push_cast, Nat.reduceEqDiff, Int.reduceLE, Int.reduceEq, Int.reduceLT, decide_true, decide_false]
  rw [V_cond]
  simp (disch := omega) only [push_cast, Nat.reduceEqDiff, Int.reduceLE, Int.reduceEq, Int.reduceLT, decide_true, decide_false]
  rw [V_cond]
  simp (disch := omega) only [push_cast, Nat.reduceEqDiff, Int.reduceLE, Int.reduceEq, Int.reduceLT, decide_true, decide_false]
  rw [V_block]
  simp (disch := omega) only [push_cast, Nat.reduceEqDiff, Int.reduceLE, Int.reduceEq, Int.reduceLT, decide_true, decide_false]
  rw [V_cond]
  simp (disch := omega) only [push_cast, Nat.reduceEqDiff, Int.reduceLE, Int.reduceEq, Int.reduceLT, decide_true, decide_false]
  rw [V_cond]
  simp (disch := omega) only [push_cast, Nat.reduceEqDiff, Int.reduceLE, Int.reduceEq, Int.reduceLT, decide_true, decide_false]
  refine ⟨.int .u64 0, fun w => by kernel_rfl, ?_⟩
  simp (disch := omega) only [push_cast, Nat.reduceEqDiff, Int.reduceLE, Int.reduceEq, Int.reduceLT, decide_true, decide_false]
  refine convN s Tryz.underlying9 un_54 Tryz.underlying5 (fun b cap cs fr hb hn hcs => ?_)
  simp (disch := omega) only [push_cast, Nat.reduceEqDiff, Int.reduceLE, Int.reduceEq, Int.reduceLT, decide_true, decide_false]
  rw [V_block]
  simp (disch := omega) only [push_cast, Nat.reduceEqDiff, Int.reduceLE, Int.reduceEq, Int.reduceLT, decide_true, decide_false]
  have hL : ∀ p ∈ [(b, Obj.cells cs.toArray 5 fr)], w.heap.size ≤ p.1 := fun p hp => by rw [List.mem_singleton.1 hp]; exact hb
  refine loopW (G := Nat × Nat) (fun g => P16I w s b cap fr cs g.1 g.2) (fun g => s.length - g.1) (0, 0) _ (fun w hw => hw) (by kernel_rfl) ⟨rfl, rfl, rfl, Nat.zero_le _, by decide, rfl, rfl, rfl, rfl, rfl, rfl, rfl, rfl, rfl, rfl⟩ ?_
  rintro ⟨i, acc⟩ wb e ds L ⟨rfl, rfl, rfl, hi, ha, hp, h1, h8, h10, h11, h12, h13, h99, h100, h101⟩
  simp only at hi ha hp h1 h8 h10 h11 h12 h13 h99 h100 h101
  simp (disch := omega) only [push_cast, Nat.reduceEqDiff, h100, h101]
  rw [V_cond]
  simp (disch := omega) only [push_cast, Nat.reduceEqDiff, h100, h101]
  refine condX_d (fun hlt => ?_) (fun hge => ?_)
  rotate_left
  · obtain rfl : i = s.length := by omega
    have hd : parse16 s 0 = some acc := by rw [hp, List.drop_length]; rfl
    simp (disch := omega) only [push_cast, Nat.reduceEqDiff, h12]
    rw [V_cond]
    simp (disch := omega) only [push_cast, Nat.reduceEqDiff, h12, h13]
    exact finEx hL (fun w' hw' => .inl ⟨acc, ha, h0, hd, rfl⟩)
  obtain ⟨c, hc⟩ : ∃ c, s[i]? = some c := ⟨_, List.getElem?_eq_getElem (by omega)⟩
  have hlt' : i < s.length := by omega
  simp (disch := omega) only [push_cast, Nat.reduceEqDiff, h99, h101]
  rw [V_block]
  simp (disch := omega) only [push_cast, Nat.reduceEqDiff, h99, h101]
  refine ldOne Shp.eq mem0 (by rw [Nat.mul_one]; exact hcs i c hc) ?_
  simp (disch := omega) only [push_cast, Nat.reduceEqDiff, h1, h8, h10, h11, h13]
  have hcl := c.toNat_lt
  have hstep : parse16 s 0 = match dig36 c with
      | none => none
      | some d => if 16 ≤ d ∨ 1152921504606846976 ≤ acc then none else parse16 (s.drop (i + 1)) (acc * 16 + d) := by
    obtain ⟨hc1, hc2⟩ := List.getElem?_eq_some_iff.1 hc
    rw [hp, List.drop_eq_getElem_cons hc1, hc2]
    rfl
  refine cutV (P16A wb s b cap fr cs i acc c) ?_ ?_
  · rw [V_block]
    simp (disch := omega) only [push_cast, Nat.reduceEqDiff, h1, h8, h10, h11, h13]
    refine guardX_t rfl (fun h95 => ?_) (fun h95 => ?_)
    all_goals
      simp (disch := omega) only [push_cast, Nat.reduceEqDiff, h8]
      rw [V_cond]
      simp (disch := omega) only [push_cast, Nat.reduceEqDiff, h8]
      refine guardX_t rfl (fun h48 => ?_) (fun h48 => ?_)
    all_goals
      simp (disch := omega) only [push_cast, Nat.reduceEqDiff, h8]
    all_goals rw [V_cond]
    all_goals try simp (disch := omega) only [push_cast, Nat.reduceEqDiff, h8]
    all_goals try refine condX_d (fun h57 => ?_) (fun h57 => ?_)
    all_goals try (exfalso; omega)
    all_goals try simp (disch := omega) only [push_cast, Nat.reduceEqDiff, h8]
    all_goals try exact ⟨rfl, rfl, rfl, h1, h8, h10, h11, h12, h13, ⟨c.toNat - 48, by unfold dig36; rw [if_pos (by omega)], by omega, congrArg (Value.int .u8) (by omega)⟩, h99, h100, h101⟩
    all_goals
      refine callV en_154 (callX_is (fun w' _ => lower_walk w' c) ?_)
      simp (disch := omega) only [push_cast, Nat.reduceEqDiff, h8]
      refine guardX_t rfl (fun h97 => ?_) (fun h97 => ?_)
    all_goals try simp (disch := omega) only [push_cast, Nat.reduceEqDiff, h8]
    all_goals try refine callV en_154 (callX_is (fun w' _ => lower_walk w' c) ?_)
    all_goals try simp (disch := omega) only [push_cast, Nat.reduceEqDiff, h8]
    all_goals rw [V_cond]
    all_goals try simp (disch := omega) only [push_cast, Nat.reduceEqDiff, h8]
    all_goals try refine condX_d (fun h122 => ?_) (fun h122 => ?_)
    all_goals try simp (disch := omega) only [push_cast, Nat.reduceEqDiff, h8]
    all_goals try refine callV en_154 (callX_is (fun w' _ => lower_walk w' c) ?_)
    all_goals try simp (disch := omega) only [push_cast, Nat.reduceEqDiff, h8]
    all_goals first
      | exact ⟨rfl, rfl, rfl, h1, h8, h10, h11, h12, h13, ⟨(lowB c - 87).toNat, by unfold dig36; rw [if_neg (by omega), if_pos (by omega)], by omega, congrArg (Value.int .u8) (by omega)⟩, h99, h100, h101⟩
      | exact finEx hL (fun w' hw' => P16S.no (by rw [hstep, show dig36 c = none by unfold dig36; rw [if_neg (by omega), if_neg (by omega)]]) (by decide) (by decide) (.inr rfl))
  · clear h1 h8 h10 h11 h12 h13 h99 h100 h101 e
    rintro wb e ds L ⟨rfl, rfl, rfl, h1, h8, h10, h11, h12, h13, ⟨d, hd, hd2, hd16⟩, h99, h100, h101⟩
    rw [hd] at hstep
    simp only at hstep
    simp (disch := omega) only [push_cast, Nat.reduceEqDiff, h1, hd16]
    rw [V_cond]
    simp (disch := omega) only [push_cast, Nat.reduceEqDiff, h10, h13]
    refine condX_d (fun h16 => ?_) (fun h16 => ?_)
    · simp (disch := omega) only [push_cast, Nat.reduceEqDiff, h10, h13]
      exact finEx hL (fun w' hw' => P16S.no (by rw [hstep, if_pos (.inl (by omega))]) (by decide) (by decide) (.inr rfl))
    simp (disch := omega) only [push_cast, Nat.reduceEqDiff, h10, h13]
    rw [V_cond]
    simp (disch := omega) only [push_cast, Nat.reduceEqDiff, h10, h11, h13]
    refine condX_d (fun hbig => ?_) (fun hbig => ?_)
    · simp (disch := omega) only [push_cast, Nat.reduceEqDiff, h11]
      exact finEx hL (fun w' hw' => P16S.no (by rw [hstep, if_pos (.inr (by omega))]) (by decide) (by decide) (.inl rfl))
    rw [if_neg (by omega)] at hstep
    simp (disch := omega) only [push_cast, Nat.reduceEqDiff, h1, h13, hd16, wu64]
    refine guardX_f rfl (fun hov => ?_) (fun hov => absurd hov (by omega))
    simp (disch := omega) only [push_cast, Nat.reduceEqDiff, h11]
    rw [V_cond]
    simp (disch := omega) only [push_cast, Nat.reduceEqDiff, h11]
    refine condX_d (fun hov2 => absurd hov2 (by omega)) (fun hov2 => ?_)
    simp (disch := omega) only [push_cast, Nat.reduceEqDiff, h101]
    refine ⟨(i + 1, acc * 16 + d), _, fun w hw => hw, ⟨rfl, rfl, rfl, by simp only; omega, by simp only; omega, hstep, h1, h8, h10, h11, h12, ?_, h99, h100, ?_⟩, by simp only; omega⟩
    · simp only [upd]; first | rfl | exact congrArg (Value.int .u64) (by omega)
    · simp only [upd]; first | rfl | exact congrArg i64 (by omega)
end Go.Proofs.YtilejcofleeeiaaGreatDoor
namespace Go.Proofs.YtilejcofleeeiaaGreatDoor
open Go Go.K Go.Shelf
set_option maxRecDepth 100000
set_option linter.unusedVariables false
set_option linter.unusedSimpArgs false
/-- utf8's tables lie where the library has laid them. -/
def TabsAt (w : World) : Prop := Lib.Utf8Tabs (laysValid_ren.g 3) (laysValid_ren.g 4) w
theorem valid_walk (w : World) (hT : TabsAt w) (l : List UInt8) (hl : l.length ≤ 9223372036854775807) : Calls Tryz.prog 81 #[str l] w (Rets w (Is (.bool (Lib.validD l)))) := by
  have h := Any.utf8_ValidString laysValid ⟨l.toArray⟩ w (by simpa [ByteArray.size] using hl) hT
  refine h.mono ?_
  rintro e w' ⟨rfl, hb⟩
  exact ⟨_, rfl, Sy.of_below hb, rfl⟩
end Go.Proofs.YtilejcofleeeiaaGreatDoor
/- YtilejcofleeeiaaGreatDoor: walks, part 82: numbers: kinds of whole numbers and their ranges, numbers compared, the place of a floating-point number. -/
namespace Go.Proofs.YtilejcofleeeiaaGreatDoor
open Go Go.K
set_option maxRecDepth 100000
set_option linter.unusedVariables false
set_option linter.unusedSimpArgs false
set_option maxHeartbeats 1000000
abbrev u64 (n : Int) : Value := .int .u64 n
def wholeP (k : Int) : Bool := decide (3 ≤ k) && decide (k ≤ 10)
theorem whole_walk (w : World) (k : Int) : Calls Tryz.prog 82 #[i64 k] w (Rets w (Is (.bool (wholeP k)))) := by
  refine enterT (args := [i64 k]) Tryz.func82 rfl Tryz.ntmps82 (congrArg Array.toList Tryz.results82) (by kernel_rfl) (by simp) (Sy.refl w) ?_
  simp (disch := omega) only [push_cast, Nat.reduceEqDiff]
  repeat' (first | ((first | refine guardX_t rfl (fun h => ?_) (fun h => ?_) | refine guardX_f rfl (fun h => ?_) (fun h => ?_) | refine condX_d (fun h => ?_) (fun h => ?_) | (refine guardX_bt rfl (fun h => ?_) (fun h => ?_) <;> (try subst h)) | (refine guardX_bf rfl (fun h => ?_) (fun h => ?_) <;> (try subst h)) | (refine condX_b (fun h => ?_) (fun h => ?_) <;> (try subst h)) | refine ldOne Shp.eq (by (first | exact mem0 | exact mem1 | exact mem2 | exact mem3 | exact mem4 | exact mem5)) rfl ?_ | refine loadX_agg Shp.eq (by (first | exact mem0 | exact mem1 | exact mem2 | exact mem3 | exact mem4 | exact mem5)) rfl rfl ?_ | refine newI (fun b hb hn => ?_) | refine storeX 0 rfl Siz.eq rfl rfl (by simp [Value.oneCell']) (by simp) ?_ | refine storeX 1 rfl Siz.eq rfl rfl (by simp [Value.oneCell']) (by simp) ?_ | refine storeX 2 rfl Siz.eq rfl rfl (by simp [Value.oneCell']) (by simp) ?_ | refine storeX 3 rfl Siz.eq rfl rfl (by simp [Value.oneCell']) (by simp) ?_ | refine storeX 4 rfl Siz.eq rfl rfl (by simp [Value.oneCell']) (by simp) ?_ | refine storeX 5 rfl Siz.eq rfl rfl (by simp [Value.oneCell']) (by simp) ?_ | refine storeX 6 rfl Siz.eq rfl rfl (by simp [Value.oneCell']) (by simp) ?_) <;> simp (disch := omega) only [push_cast, Nat.reduceEqDiff]) | (first | rw [V_cond] | rw [V_block]) <;> (try simp (disch := omega) only [push_cast, Nat.reduceEqDiff]))
  all_goals refine finIs (by simp) (congrArg Value.bool ?_)
  · simp [wholeP, h]
  · simp [wholeP]; omega
def bitsP (k : Int) : Int := if k = 3 ∨ k = 7 then 8 else if k = 4 ∨ k = 8 then 16 else if k = 5 ∨ k = 9 then 32 else 64
theorem kinds8 {k : Int} (h : 3 ≤ k ∧ k ≤ 10) : k = 3 ∨ k = 4 ∨ k = 5 ∨ k = 6 ∨ k = 7 ∨ k = 8 ∨ k = 9 ∨ k = 10 := by omega
theorem sized_walk (w : World) (k : Int) (hk : 3 ≤ k ∧ k ≤ 10) : Calls Tryz.prog 115 #[i64 k] w (Rets w (Is (.tuple #[i64 (bitsP k), .bool (decide (k ≤ 6))]))) := by
  refine enterT (args := [i64 k]) Tryz.func115 rfl Tryz.ntmps115 (congrArg Array.toList Tryz.results115) (by kernel_rfl) (by simp) (Sy.refl w) ?_
  simp (disch := omega) only [push_cast, Nat.reduceEqDiff]
  rcases kinds8 hk with rfl | rfl | rfl | rfl | rfl | rfl | rfl | rfl
  all_goals simp (disch := omega) only [push_cast, Nat.reduceEqDiff, Int.reduceLE, decide_true, decide_false]
  all_goals rw [V_cond]
  all_goals simp (disch := omega) only [push_cast, Nat.reduceEqDiff, Int.reduceSub]
  · refine ⟨i64 8, fun w => by kernel_rfl, ?_⟩
    simp (disch := omega) only [push_cast, Nat.reduceEqDiff]
    exact finIs (by simp) rfl
  · refine ⟨i64 16, fun w => by kernel_rfl, ?_⟩
    simp (disch := omega) only [push_cast, Nat.reduceEqDiff]
    exact finIs (by simp) rfl
  · refine ⟨i64 32, fun w => by kernel_rfl, ?_⟩
    simp (disch := omega) only [push_cast, Nat.reduceEqDiff]
    exact finIs (by simp) rfl
  · refine ⟨i64 64, fun w => by kernel_rfl, ?_⟩
    simp (disch := omega) only [push_cast, Nat.reduceEqDiff]
    exact finIs (by simp) rfl
  · refine ⟨i64 8, fun w => by kernel_rfl, ?_⟩
    simp (disch := omega) only [push_cast, Nat.reduceEqDiff]
    exact finIs (by simp) rfl
  · refine ⟨i64 16, fun w => by kernel_rfl, ?_⟩
    simp (disch := omega) only [push_cast, Nat.reduceEqDiff]
    exact finIs (by simp) rfl
  · refine ⟨i64 32, fun w => by kernel_rfl, ?_⟩
    simp (disch := omega) only [push_cast, Nat.reduceEqDiff]
    exact finIs (by simp) rfl
  · refine ⟨i64 64, fun w => by kernel_rfl, ?_⟩
    simp (disch := omega) only [push_cast, Nat.reduceEqDiff]
    exact finIs (by simp) rfl
def rangedP (k n : Int) : Bool := if k = 6 ∨ k = 10 then true else if k ≤ 6 then decide (-(2 : Int) ^ (bitsP k - 1).toNat ≤ n) && decide (n < 2 ^ (bitsP k - 1).toNat) else decide (0 ≤ n) && decide (n < 2 ^ (bitsP k).toNat)
theorem ranged_walk (w : World) (k n : Int) (hk : 3 ≤ k ∧ k ≤ 10) : Calls Tryz.prog 83 #[i64 k, i64 n] w (Rets w (Is (.bool (rangedP k n)))) := by
  refine enterT (args := [i64 k, i64 n]) Tryz.func83 rfl Tryz.ntmps83 (congrArg Array.toList Tryz.results83) (by kernel_rfl) (by simp) (Sy.refl w) ?_
  simp (disch := omega) only [push_cast, Nat.reduceEqDiff]
  refine callV en_115 (callX_is (fun w' _ => sized_walk w' k hk) ?_)
  rcases kinds8 hk with rfl | rfl | rfl | rfl | rfl | rfl | rfl | rfl
  · rw [show bitsP 3 = 8 from rfl]
    simp (disch := omega) only [push_cast, Nat.reduceEqDiff, decide_true, decide_false, Int.reduceEq, Int.reduceLE, Int.reduceSub]
    rw [V_block]
    simp (disch := omega) only [push_cast, Nat.reduceEqDiff, decide_true, decide_false, Int.reduceEq, Int.reduceLE, Int.reduceSub]
    rw [V_cond]
    simp (disch := omega) only [push_cast, Nat.reduceEqDiff, decide_true, decide_false, Int.reduceEq, Int.reduceLE, Int.reduceSub]
    rw [V_cond]
    simp (disch := omega) only [push_cast, Nat.reduceEqDiff, decide_true, decide_false, Int.reduceEq, Int.reduceLE, Int.reduceSub]
    refine ⟨i64 (-128), fun w => by kernel_rfl, ?_⟩
    simp (disch := omega) only [push_cast, Nat.reduceEqDiff]
    have hr : rangedP 3 n = (decide ((-128 : Int) ≤ n) && decide (n < 128)) := rfl
    rw [hr]
    refine guardX_t rfl (fun h => ?_) (fun h => ?_)
    · simp (disch := omega) only [push_cast, Nat.reduceEqDiff, decide_true, decide_false, Int.reduceEq, Int.reduceLE, Int.reduceSub]
      refine ⟨i64 128, fun w => by kernel_rfl, ?_⟩
      simp (disch := omega) only [push_cast, Nat.reduceEqDiff]
      exact finIs (by simp) (by simp [h])
    · simp (disch := omega) only [push_cast, Nat.reduceEqDiff]
      exact finIs (by simp) (by simp [h])
  · rw [show bitsP 4 = 16 from rfl]
    simp (disch := omega) only [push_cast, Nat.reduceEqDiff, decide_true, decide_false, Int.reduceEq, Int.reduceLE, Int.reduceSub]
    rw [V_block]
    simp (disch := omega) only [push_cast, Nat.reduceEqDiff, decide_true, decide_false, Int.reduceEq, Int.reduceLE, Int.reduceSub]
    rw [V_cond]
    simp (disch := omega) only [push_cast, Nat.reduceEqDiff, decide_true, decide_false, Int.reduceEq, Int.reduceLE, Int.reduceSub]
    rw [V_cond]
    simp (disch := omega) only [push_cast, Nat.reduceEqDiff, decide_true, decide_false, Int.reduceEq, Int.reduceLE, Int.reduceSub]
    refine ⟨i64 (-32768), fun w => by kernel_rfl, ?_⟩
    simp (disch := omega) only [push_cast, Nat.reduceEqDiff]
    have hr : rangedP 4 n = (decide ((-32768 : Int) ≤ n) && decide (n < 32768)) := rfl
    rw [hr]
    refine guardX_t rfl (fun h => ?_) (fun h => ?_)
    · simp (disch := omega) only [push_cast, Nat.reduceEqDiff, decide_true, decide_false, Int.reduceEq, Int.reduceLE, Int.reduceSub]
      refine ⟨i64 32768, fun w => by kernel_rfl, ?_⟩
      simp (disch := omega) only [push_cast, Nat.reduceEqDiff]
      exact finIs (by simp) (by simp [h])
    · simp (disch := omega) only [push_cast, Nat.reduceEqDiff]
      exact finIs (by simp) (by simp [h])
  · rw [show bitsP 5 = 32 from rfl]
    simp (disch := omega) only [push_cast, Nat.reduceEqDiff, decide_true, decide_false, Int.reduceEq, Int.reduceLE, Int.reduceSub]
    rw [V_block]
    simp (disch := omega) only [push_cast, Nat.reduceEqDiff, decide_true, decide_false, Int.reduceEq, Int.reduceLE, Int.reduceSub]
    rw [V_cond]
    simp (disch := omega) only [push_cast, Nat.reduceEqDiff, decide_true, decide_false, Int.reduceEq, Int.reduceLE, Int.reduceSub]
    rw [V_cond]
    simp (disch := omega) only [push_cast, Nat.reduceEqDiff, decide_true, decide_false, Int.reduceEq, Int.reduceLE, Int.reduceSub]
    refine ⟨i64 (-2147483648), fun w => by kernel_rfl, ?_⟩
    simp (disch := omega) only [push_cast, Nat.reduceEqDiff]
    have hr : rangedP 5 n = (decide ((-2147483648 : Int) ≤ n) && decide (n < 2147483648)) := rfl
    rw [hr]
    refine guardX_t rfl (fun h => ?_) (fun h => ?_)
    · simp (disch := omega) only [push_cast, Nat.reduceEqDiff, decide_true, decide_false, Int.reduceEq, Int.reduceLE, Int.reduceSub]
      refine ⟨i64 2147483648, fun w => by kernel_rfl, ?_⟩
      simp (disch := omega) only [push_cast, Nat.reduceEqDiff]
      exact finIs (by simp) (by simp [h])
    · simp (disch := omega) only [push_cast, Nat.reduceEqDiff]
      exact finIs (by simp) (by simp [h])
  · rw [show bitsP 6 = 64 from rfl]
    simp (disch := omega) only [push_cast, Nat.reduceEqDiff, decide_true, decide_false, Int.reduceEq, Int.reduceLE, Int.reduceSub]
    rw [V_block]
    simp (disch := omega) only [push_cast, Nat.reduceEqDiff, decide_true, decide_false, Int.reduceEq, Int.reduceLE, Int.reduceSub]
    rw [V_cond]
    simp (disch := omega) only [push_cast, Nat.reduceEqDiff, decide_true, decide_false, Int.reduceEq, Int.reduceLE, Int.reduceSub]
    exact finIs (by simp) rfl
  · rw [show bitsP 7 = 8 from rfl]
    simp (disch := omega) only [push_cast, Nat.reduceEqDiff, decide_true, decide_false, Int.reduceEq, Int.reduceLE, Int.reduceSub]
    rw [V_block]
    simp (disch := omega) only [push_cast, Nat.reduceEqDiff, decide_true, decide_false, Int.reduceEq, Int.reduceLE, Int.reduceSub]
    rw [V_cond]
    simp (disch := omega) only [push_cast, Nat.reduceEqDiff, decide_true, decide_false, Int.reduceEq, Int.reduceLE, Int.reduceSub]
    rw [V_cond]
    simp (disch := omega) only [push_cast, Nat.reduceEqDiff, decide_true, decide_false, Int.reduceEq, Int.reduceLE, Int.reduceSub]
    have hr : rangedP 7 n = (decide ((0 : Int) ≤ n) && decide (n < 256)) := rfl
    rw [hr]
    refine guardX_t rfl (fun h => ?_) (fun h => ?_)
    · simp (disch := omega) only [push_cast, Nat.reduceEqDiff, decide_true, decide_false, Int.reduceEq, Int.reduceLE, Int.reduceSub]
      refine ⟨i64 256, fun w => by kernel_rfl, ?_⟩
      simp (disch := omega) only [push_cast, Nat.reduceEqDiff]
      exact finIs (by simp) (by simp [h])
    · simp (disch := omega) only [push_cast, Nat.reduceEqDiff]
      exact finIs (by simp) (by simp [h])
  · rw [show bitsP 8 = 16 from rfl]
    simp (disch := omega) only [push_cast, Nat.reduceEqDiff, decide_true, decide_false, Int.reduceEq, Int.reduceLE, Int.reduceSub]
    rw [V_block]
    simp (disch := omega) only [push_cast, Nat.reduceEqDiff, decide_true, decide_false, Int.reduceEq, Int.reduceLE, Int.reduceSub]
    rw [V_cond]
    simp (disch := omega) only [push_cast, Nat.reduceEqDiff, decide_true, decide_false, Int.reduceEq, Int.reduceLE, Int.reduceSub]
    rw [V_cond]
    simp (disch := omega) only [push_cast, Nat.reduceEqDiff, decide_true, decide_false, Int.reduceEq, Int.reduceLE, Int.reduceSub]
    have hr : rangedP 8 n = (decide ((0 : Int) ≤ n) && decide (n < 65536)) := rfl
    rw [hr]
    refine guardX_t rfl (fun h => ?_) (fun h => ?_)
    · simp (disch := omega) only [push_cast, Nat.reduceEqDiff, decide_true, decide_false, Int.reduceEq, Int.reduceLE, Int.reduceSub]
      refine ⟨i64 65536, fun w => by kernel_rfl, ?_⟩
      simp (disch := omega) only [push_cast, Nat.reduceEqDiff]
      exact finIs (by simp) (by simp [h])
    · simp (disch := omega) only [push_cast, Nat.reduceEqDiff]
      exact finIs (by simp) (by simp [h])
  · rw [show bitsP 9 = 32 from rfl]
    simp (disch := omega) only [push_cast, Nat.reduceEqDiff, decide_true, decide_false, Int.reduceEq, Int.reduceLE, Int.reduceSub]
    rw [V_block]
    simp (disch := omega) only [push_cast, Nat.reduceEqDiff, decide_true, decide_false, Int.reduceEq, Int.reduceLE, Int.reduceSub]
    rw [V_cond]
    simp (disch := omega) only [push_cast, Nat.reduceEqDiff, decide_true, decide_false, Int.reduceEq, Int.reduceLE, Int.reduceSub]
    rw [V_cond]
    simp (disch := omega) only [push_cast, Nat.reduceEqDiff, decide_true, decide_false, Int.reduceEq, Int.reduceLE, Int.reduceSub]
    have hr : rangedP 9 n = (decide ((0 : Int) ≤ n) && decide (n < 4294967296)) := rfl
    rw [hr]
    refine guardX_t rfl (fun h => ?_) (fun h => ?_)
    · simp (disch := omega) only [push_cast, Nat.reduceEqDiff, decide_true, decide_false, Int.reduceEq, Int.reduceLE, Int.reduceSub]
      refine ⟨i64 4294967296, fun w => by kernel_rfl, ?_⟩
      simp (disch := omega) only [push_cast, Nat.reduceEqDiff]
      exact finIs (by simp) (by simp [h])
    · simp (disch := omega) only [push_cast, Nat.reduceEqDiff]
      exact finIs (by simp) (by simp [h])
  · rw [show bitsP 10 = 64 from rfl]
    simp (disch := omega) only [push_cast, Nat.reduceEqDiff, decide_true, decide_false, Int.reduceEq, Int.reduceLE, Int.reduceSub]
    rw [V_block]
    simp (disch := omega) only [push_cast, Nat.reduceEqDiff, decide_true, decide_false, Int.reduceEq, Int.reduceLE, Int.reduceSub]
    rw [V_cond]
    simp (disch := omega) only [push_cast, Nat.reduceEqDiff, decide_true, decide_false, Int.reduceEq, Int.reduceLE, Int.reduceSub]
    exact finIs (by simp) rfl
end Go.Proofs.YtilejcofleeeiaaGreatDoor
