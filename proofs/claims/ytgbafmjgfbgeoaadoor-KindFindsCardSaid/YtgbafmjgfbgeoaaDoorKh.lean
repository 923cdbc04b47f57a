/- YtgbafmjgfbgeoaaDoor: the walk calculus, part Kh: proved rules by which the walks of this seat are made. -/
import Derived.Test.YtgbafmjgfbgeoaaDoorKg

namespace Go.K
open Go
set_option linter.unusedVariables false
set_option linter.unusedSimpArgs false

variable {wb : World} {L : Own}
theorem Sy.end {w : World} (h : Sy wb L w) (hL : ∀ p ∈ L, wb.heap.size ≤ p.1) : Sy wb [] w := h.drop (List.nil_sublist _) (fun p hp => .inr (hL p hp))
theorem finIs {u v : Value} (hL : ∀ p ∈ L, wb.heap.size ≤ p.1) (h : u = v) : ∀ w', Sy wb L w' → Rets wb (Is v) (.returned u) w' := fun _ hw => ⟨_, rfl, hw.end hL, h⟩
theorem finEx {u : Value} {S : Value → World → Prop} (hL : ∀ p ∈ L, wb.heap.size ≤ p.1) (h : ∀ w', Sy wb L w' → S u w') : ∀ w', Sy wb L w' → Rets wb S (.returned u) w' := fun w' hw => ⟨_, rfl, hw.end hL, h w' hw⟩
theorem callVc {c : Cfg} {g : FuncId} {first cap args : Array Value} {o : Oper} {e : Env} {ds : List Deferred} {K : Value → World → Own → Prop} {Kp : KP} (he : entersB c.P g = true) (h : CallX c.P g (first ++ args ++ cap) wb L (tag K) (tag Kp)) :
    CallV c (.func (.func g) first cap) args (tag o) wb e ds L (tag K) (tag Kp) := ⟨he, h⟩
theorem Rd.sy {w w' : World} {lo : Nat} {a : Option Addr} {l : List Fld} {M : Own} (h : Rd w lo a l) (hlo : lo ≤ w.heap.size) (hs : Sy w M w') (hM : ∀ p ∈ M, lo ≤ p.1) : Rd w' lo a l :=
  h.mono fun k hk => hs.rest k (Nat.lt_of_lt_of_le hk hlo) (fun hm => by obtain ⟨p, hp, e⟩ := List.mem_map.1 hm; have := hM p hp; omega)
def idxF (p : Fld → Bool) (l : List Fld) : Int := match l.findIdx? p with | some i => i | none => -1
theorem idxF_any (p : Fld → Bool) (l : List Fld) : (0 ≤ idxF p l) ↔ l.any p = true := by
  unfold idxF
  cases h : l.findIdx? p with
  | none =>
    rw [List.findIdx?_eq_none_iff] at h
    simp only [List.any_eq_true]
    constructor
    · intro h1; omega
    · rintro ⟨x, hx, hp⟩; rw [h x hx] at hp; cases hp
  | some i =>
    have := (List.findIdx?_eq_some_iff_getElem.1 h)
    obtain ⟨hi, hp, _⟩ := this
    constructor
    · intro _; rw [List.any_eq_true]; exact ⟨_, List.getElem_mem hi, hp⟩
    · intro _; simp
theorem idxF_at {p : Fld → Bool} {l : List Fld} {k : Nat} {f : Fld} (h : ∀ j g, j < k → l[j]? = some g → p g = false) (hk : l[k]? = some f) (hp : p f = true) : idxF p l = k := by
  unfold idxF
  obtain ⟨h1, h2⟩ := List.getElem?_eq_some_iff.1 hk
  have : l.findIdx? p = some k := by
    rw [List.findIdx?_eq_some_iff_getElem]
    refine ⟨h1, by rw [h2]; exact hp, fun j hj => ?_⟩
    have := h j _ hj (List.getElem?_eq_getElem (by omega))
    simp [this]
  rw [this]
theorem idxF_none {p : Fld → Bool} {l : List Fld} (h : ∀ j g, j < l.length → l[j]? = some g → p g = false) : idxF p l = -1 := by
  unfold idxF
  have : l.findIdx? p = none := by
    rw [List.findIdx?_eq_none_iff]
    intro x hx
    obtain ⟨j, hj⟩ := List.mem_iff_getElem?.1 hx
    exact h j x (List.getElem?_eq_some_iff.1 hj).1 hj
  rw [this]
theorem ldAggF {P : Program} {t : TypeId} {b off n : Nat} {vs : List Value} {K : Value → Prop} (ht : shapeOf P t = some (true, n)) (ha : At wb b off vs) (hn : vs.length = n) (hb : b ∉ L.map (·.1)) (h : K (.agg vs.toArray)) :
    LoadX P t (.pointer (some ⟨b, off, none⟩)) wb L (tag K) := loadX_aggF (by rw [ht, hn]) ha hb h
end Go.K
