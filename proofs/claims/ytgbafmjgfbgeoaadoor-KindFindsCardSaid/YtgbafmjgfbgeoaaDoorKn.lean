/- YtgbafmjgfbgeoaaDoor: the walk calculus, part Kn: proved rules by which the walks of this seat are made. -/
import Derived.Test.YtgbafmjgfbgeoaaDoorKm
import Derived.Laws.IdiomStrings

namespace Go.K
open Go Go.Lib
set_option linter.unusedVariables false
set_option linter.unusedSimpArgs false

variable {wb : World} {L : Own} {P : Program}

/-- string(b), b a row of bytes of one's own. -/
theorem convS {src dst e : TypeId} {n : Nat} {M : Own} {v : Value} {s : List UInt8} {K : Value → World → Own → Prop} (hs : P.underlying src = some (.slice e)) (he : P.underlying e = some (.int .u8)) (hd : P.underlying dst = some .string)
    (hrow : RowO wb e 1 L M v n (bytesV s)) (hK : K (str s) wb L) : ConvX P src dst v wb L (tag K) := by
  obtain ⟨hxl, hrow⟩ := hrow
  have hn : s.length = n := by rw [bytesV_length] at hxl; omega
  subst hn
  rcases hrow with ⟨rfl, h0, rfl⟩ | ⟨b, cap, cs, rfl, rfl, hbb, hnc, hcm, hcl, hct⟩
  · have hs0 : s = [] := List.eq_nil_of_length_eq_zero h0
    subst hs0
    intro w hw
    refine ⟨_, w, wb, L, ?_, hw, hK⟩
    rw [run_convert_bytes_string w src dst e none 0 0 hs he hd]
    simp [Conv.bytesToString]
    rfl
  · intro w hw
    refine ⟨_, w, wb, _, run_convert_bytes_back w src dst e ⟨b, 0, none⟩ cap s hs he hd (fun j hj => ?_), hw, hK⟩
    have ha : (⟨b, 0, none⟩ : Addr).add j = ⟨b, j, none⟩ := by
      unfold Addr.add; split
      · rename_i h0; subst h0; rfl
      · simp
    rw [ha]
    simp only [World.cell?, hw.own b _ (List.mem_cons_self ..)]
    rw [Nat.mul_one] at hct
    have h2 : (bytesV s)[j]? = some (.int .u8 (s[j].toNat : Int)) := by simp [bytesV, List.getElem?_eq_getElem hj]
    rw [← hct, List.getElem?_take] at h2
    rw [if_pos hj] at h2
    simpa using h2
theorem qcallX_new {f : FuncId} {args : Array Value} (v : Value) {S : Value → Own → Prop} {K : Value → Prop} (h : ∀ w, Sy wb L w → Calls P f args w (RetsN w S)) (hv : ∀ u M, S u M → u = v) (hk : K v) : QCallX P f args wb L (tag K) :=
  ⟨v, fun w hw => (h w hw).mono fun e w' ⟨u, M, he, hs, hM, hS⟩ => by
    subst he
    exact ⟨by rw [hv u M hS], (hw.add hs hM).left (fun p hp => Nat.le_trans hw.size (hM p hp))⟩, hk⟩
end Go.K
