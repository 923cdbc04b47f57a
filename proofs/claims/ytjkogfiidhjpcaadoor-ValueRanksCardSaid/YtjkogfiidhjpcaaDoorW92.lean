/- YtjkogfiidhjpcaaDoor: plain law: the order of the values that fit a field is an order of all of them, in which just the same ones are alike. -/
import Derived.Test.YtjkogfiidhjpcaaDoorW90
import Derived.Test.YtjkogfiidhjpcaaDoorW91
namespace Go.Proofs.YtjkogfiidhjpcaaDoor
open Go Go.K
set_option linter.unusedVariables false
set_option linter.unusedSimpArgs false
structure OrdS {α : Type} (o : α → α → Int) (S : α → Prop) : Prop where
  rng : ∀ x y, S x → S y → o x y = -1 ∨ o x y = 0 ∨ o x y = 1
  anti : ∀ x y, S x → S y → o x y = - o y x
  tr : ∀ x y z, S x → S y → S z → o x y ≤ 0 → o y z ≤ 0 → o x z ≤ 0
  eq : ∀ x y, S x → S y → o x y = 0 → x = y
namespace OrdS
variable {α β : Type} {o o' : α → α → Int} {S S' : α → Prop}
theorem lt1 (h : OrdS o S) {x y z : α} (hx : S x) (hy : S y) (hz : S z) (h1 : o x y < 0) (h2 : o y z ≤ 0) : o x z < 0 := by
  have h3 := h.tr x y z hx hy hz (by omega) h2
  rcases Int.lt_or_eq_of_le h3 with h4 | h4
  · exact h4
  · obtain rfl := h.eq x z hx hz h4
    have := h.anti x y hx hy
    omega
theorem lt2 (h : OrdS o S) {x y z : α} (hx : S x) (hy : S y) (hz : S z) (h1 : o x y ≤ 0) (h2 : o y z < 0) : o x z < 0 := by
  have h3 := h.tr x y z hx hy hz h1 (by omega)
  rcases Int.lt_or_eq_of_le h3 with h4 | h4
  · exact h4
  · obtain rfl := h.eq x z hx hz h4
    have := h.anti x y hx hy
    omega
theorem sub (h : OrdS o S') (hs : ∀ x, S x → S' x) : OrdS o S :=
  ⟨fun x y hx hy => h.rng x y (hs x hx) (hs y hy), fun x y hx hy => h.anti x y (hs x hx) (hs y hy), fun x y z hx hy hz => h.tr x y z (hs x hx) (hs y hy) (hs z hz), fun x y hx hy => h.eq x y (hs x hx) (hs y hy)⟩
theorem congr (h : OrdS o S) (he : ∀ x y, S x → S y → o' x y = o x y) : OrdS o' S :=
  ⟨fun x y hx hy => by rw [he x y hx hy]; exact h.rng x y hx hy, fun x y hx hy => by rw [he x y hx hy, he y x hy hx]; exact h.anti x y hx hy,
   fun x y z hx hy hz => by rw [he x y hx hy, he y z hy hz, he x z hx hz]; exact h.tr x y z hx hy hz, fun x y hx hy => by rw [he x y hx hy]; exact h.eq x y hx hy⟩
theorem map {q : β → β → Int} {T : β → Prop} (h : OrdS q T) (g : α → β) (hg : ∀ x, S x → T (g x)) (hi : ∀ x y, S x → S y → g x = g y → x = y) : OrdS (fun x y => q (g x) (g y)) S :=
  ⟨fun x y hx hy => h.rng _ _ (hg x hx) (hg y hy), fun x y hx hy => h.anti _ _ (hg x hx) (hg y hy), fun x y z hx hy hz => h.tr _ _ _ (hg x hx) (hg y hy) (hg z hz), fun x y hx hy e => hi x y hx hy (h.eq _ _ (hg x hx) (hg y hy) e)⟩
theorem refl (h : OrdS o S) {x : α} (hx : S x) : o x x = 0 := by have := h.anti x x hx hx; omega
end OrdS
theorem cmpZ_ways (x y : Int) : (x < y ∧ cmpZ x y = -1) ∨ (x = y ∧ cmpZ x y = 0) ∨ (y < x ∧ cmpZ x y = 1) := by
  unfold cmpZ
  by_cases a1 : x < y
  · rw [if_pos a1]; exact .inl ⟨a1, rfl⟩
  · rw [if_neg a1]
    by_cases a2 : y < x
    · rw [if_pos a2]; exact .inr (.inr ⟨a2, rfl⟩)
    · rw [if_neg a2]; exact .inr (.inl ⟨by omega, rfl⟩)
theorem ord_Z : OrdS cmpZ (fun _ => True) := by
  refine ⟨fun x y _ _ => ?_, fun x y _ _ => ?_, fun x y z _ _ _ h1 h2 => ?_, fun x y _ _ h1 => ?_⟩
  · have := cmpZ_ways x y; omega
  · have := cmpZ_ways x y; have := cmpZ_ways y x; omega
  · have := cmpZ_ways x y; have := cmpZ_ways y z; have := cmpZ_ways x z; omega
  · have := cmpZ_ways x y; omega
theorem cb_rng : ∀ (a b : List UInt8), Lib.compareBytes a b = -1 ∨ Lib.compareBytes a b = 0 ∨ Lib.compareBytes a b = 1
  | [], [] => by simp [Lib.compareBytes]
  | [], _ :: _ => by simp [Lib.compareBytes]
  | _ :: _, [] => by simp [Lib.compareBytes]
  | a :: us, b :: vs => by
    have := cb_rng us vs
    rw [Lib.compareBytes]
    (repeat' split) <;> omega
theorem u8_tri (a b : UInt8) : a < b ∨ a = b ∨ b < a := by
  rw [UInt8.lt_iff_toNat_lt, UInt8.lt_iff_toNat_lt, ← UInt8.toNat_inj]; omega
theorem u8_irr (a : UInt8) : ¬ a < a := by rw [UInt8.lt_iff_toNat_lt]; omega
theorem u8_tr {a b c : UInt8} (h1 : a < b) (h2 : b < c) : a < c := by rw [UInt8.lt_iff_toNat_lt] at *; omega
theorem cb_lt {a b : UInt8} {us vs : List UInt8} (h : a < b) : Lib.compareBytes (a :: us) (b :: vs) = -1 := by rw [Lib.compareBytes, if_pos h]
theorem cb_gt {a b : UInt8} {us vs : List UInt8} (h : b < a) : Lib.compareBytes (a :: us) (b :: vs) = 1 := by
  rw [Lib.compareBytes, if_neg (fun h2 => u8_irr _ (u8_tr h h2)), if_pos h]
theorem cb_same {a : UInt8} {us vs : List UInt8} : Lib.compareBytes (a :: us) (a :: vs) = Lib.compareBytes us vs := by
  rw [Lib.compareBytes, if_neg (u8_irr a), if_neg (u8_irr a)]
theorem cb_anti : ∀ (a b : List UInt8), Lib.compareBytes a b = - Lib.compareBytes b a
  | [], [] => by simp [Lib.compareBytes]
  | [], _ :: _ => by simp [Lib.compareBytes]
  | _ :: _, [] => by simp [Lib.compareBytes]
  | a :: us, b :: vs => by
    rcases u8_tri a b with h | rfl | h
    · rw [cb_lt h, cb_gt h]
    · rw [cb_same, cb_same]; exact cb_anti us vs
    · rw [cb_lt h, cb_gt h]; rfl
theorem cb_eq : ∀ (a b : List UInt8), Lib.compareBytes a b = 0 → a = b
  | [], [], _ => rfl
  | [], _ :: _, h => by simp [Lib.compareBytes] at h
  | _ :: _, [], h => by simp [Lib.compareBytes] at h
  | a :: us, b :: vs, h => by
    rcases u8_tri a b with h2 | rfl | h2
    · rw [cb_lt h2] at h; omega
    · rw [cb_same] at h; rw [cb_eq us vs h]
    · rw [cb_gt h2] at h; omega
theorem cb_tr : ∀ (a b c : List UInt8), Lib.compareBytes a b ≤ 0 → Lib.compareBytes b c ≤ 0 → Lib.compareBytes a c ≤ 0
  | [], _, [], _, _ => by simp [Lib.compareBytes]
  | [], _, _ :: _, _, _ => by simp [Lib.compareBytes]
  | _ :: _, [], _, h, _ => by simp [Lib.compareBytes] at h
  | _ :: _, _ :: _, [], _, h => by simp [Lib.compareBytes] at h
  | a :: us, b :: vs, c :: ws, h1, h2 => by
    rcases u8_tri a b with q1 | rfl | q1
    · rcases u8_tri b c with q2 | rfl | q2
      · rw [cb_lt (u8_tr q1 q2)]; omega
      · rw [cb_lt q1]; omega
      · rw [cb_gt q2] at h2; omega
    · rcases u8_tri a c with q2 | rfl | q2
      · rw [cb_lt q2]; omega
      · rw [cb_same] at *; exact cb_tr us vs ws h1 h2
      · rw [cb_gt q2] at h2; omega
    · rw [cb_gt q1] at h1; omega
theorem ord_B : OrdS Lib.compareBytes (fun _ => True) := ⟨fun x y _ _ => cb_rng x y, fun x y _ _ => cb_anti x y, fun x y z _ _ _ => cb_tr x y z, fun x y _ _ => cb_eq x y⟩
def SL (S : Nat → Vl → Prop) : Nat → List Vl → Prop
  | _, [] => True
  | i, x :: l => S i x ∧ SL S (i + 1) l
section
variable {o : Nat → Vl → Vl → Int} {S : Nat → Vl → Prop}
theorem ls_rng (h : ∀ i, OrdS (o i) (S i)) : ∀ (i : Nat) (a b : List Vl), SL S i a → SL S i b → ordLs o i a b = -1 ∨ ordLs o i a b = 0 ∨ ordLs o i a b = 1
  | _, [], [], _, _ => by simp [ordLs]
  | _, [], _ :: _, _, _ => by simp [ordLs]
  | _, _ :: _, [], _, _ => by simp [ordLs]
  | i, a :: us, b :: vs, ha, hb => by
    have h1 := ls_rng h (i + 1) us vs ha.2 hb.2
    have h2 := (h i).rng a b ha.1 hb.1
    rw [ordLs]
    split <;> omega
theorem ls_anti (h : ∀ i, OrdS (o i) (S i)) : ∀ (i : Nat) (a b : List Vl), SL S i a → SL S i b → ordLs o i a b = - ordLs o i b a
  | _, [], [], _, _ => by simp [ordLs]
  | _, [], _ :: _, _, _ => by simp [ordLs]
  | _, _ :: _, [], _, _ => by simp [ordLs]
  | i, a :: us, b :: vs, ha, hb => by
    have h1 := ls_anti h (i + 1) us vs ha.2 hb.2
    have h2 := (h i).anti a b ha.1 hb.1
    rw [ordLs, ordLs]
    by_cases q : o i a b = 0
    · rw [if_neg (by omega), if_neg (by omega)]; exact h1
    · rw [if_pos q, if_pos (by omega)]; exact h2
theorem ls_eq (h : ∀ i, OrdS (o i) (S i)) : ∀ (i : Nat) (a b : List Vl), SL S i a → SL S i b → ordLs o i a b = 0 → a = b
  | _, [], [], _, _, _ => rfl
  | _, [], _ :: _, _, _, h => by simp [ordLs] at h
  | _, _ :: _, [], _, _, h => by simp [ordLs] at h
  | i, a :: us, b :: vs, ha, hb, he => by
    rw [ordLs] at he
    by_cases q : o i a b = 0
    · rw [if_neg (by omega)] at he
      rw [(h i).eq a b ha.1 hb.1 q, ls_eq h (i + 1) us vs ha.2 hb.2 he]
    · rw [if_pos q] at he; exact absurd he q
theorem ls_tr (h : ∀ i, OrdS (o i) (S i)) : ∀ (i : Nat) (a b c : List Vl), SL S i a → SL S i b → SL S i c → ordLs o i a b ≤ 0 → ordLs o i b c ≤ 0 → ordLs o i a c ≤ 0
  | _, [], _, [], _, _, _, _, _ => by simp [ordLs]
  | _, [], _, _ :: _, _, _, _, _, _ => by simp [ordLs]
  | _, _ :: _, [], _, _, _, _, h, _ => by simp [ordLs] at h
  | _, _ :: _, _ :: _, [], _, _, _, _, h => by simp [ordLs] at h
  | i, a :: us, b :: vs, c :: ws, ha, hb, hc, h1, h2 => by
    rw [ordLs] at h1 h2 ⊢
    by_cases q1 : o i a b = 0
    · obtain rfl := (h i).eq a b ha.1 hb.1 q1
      rw [if_neg (by omega)] at h1
      by_cases q2 : o i a c = 0
      · rw [if_neg (by omega)] at h2 ⊢
        exact ls_tr h (i + 1) us vs ws ha.2 hb.2 hc.2 h1 h2
      · rw [if_pos q2] at h2 ⊢; exact h2
    · rw [if_pos q1] at h1
      have h2' : o i b c ≤ 0 := by
        by_cases q2 : o i b c = 0
        · omega
        · rw [if_pos q2] at h2; exact h2
      have h3 := (h i).lt1 ha.1 hb.1 hc.1 (by omega) h2'
      rw [if_pos (by omega)]
      omega
theorem ord_L (h : ∀ i, OrdS (o i) (S i)) : OrdS (ordLs o 0) (SL S 0) := ⟨ls_rng h 0, ls_anti h 0, ls_tr h 0, ls_eq h 0⟩
end
theorem SL_of {S : Nat → Vl → Prop} : ∀ {l : List Vl} {i : Nat}, (∀ j x, l[j]? = some x → S (i + j) x) → SL S i l
  | [], _, _ => trivial
  | x :: l, i, h => ⟨h 0 x rfl, SL_of (i := i + 1) (fun j y hy => by have := h (j + 1) y (by simpa using hy); rwa [show i + (j + 1) = i + 1 + j by omega] at this)⟩
mutual
/-- All numbers are numbers of 64 bits. -/
def rnV : Vl → Prop
  | .mk _ n _ ls => (-9223372036854775808 ≤ n ∧ n < 9223372036854775808) ∧ rnL ls
def rnL : List Vl → Prop
  | [] => True
  | v :: l => rnV v ∧ rnL l
end
theorem rnV_iff (v : Vl) : rnV v ↔ (-9223372036854775808 ≤ v.num ∧ v.num < 9223372036854775808) ∧ rnL v.ls := by cases v; rw [rnV]; rfl
theorem rnL_get : ∀ {l : List Vl} {i : Nat} {x : Vl}, rnL l → l[i]? = some x → rnV x
  | [], i, x, _, h => by simp at h
  | v :: l, 0, x, h, hx => by
    rw [rnL] at h
    simp only [List.getElem?_cons_zero, Option.some.injEq] at hx
    subst hx; exact h.1
  | v :: l, i + 1, x, h, hx => by
    rw [rnL] at h
    exact rnL_get h.2 (by simpa using hx)
theorem RdV.rn {w : World} {lo : Nat} {a : Option Addr} {l : List Vl} (h : RdV w lo a l) : rnL l := by
  induction h with
  | nil a => rw [rnL]; trivial
  | cons hb hc hl ht hn hat hs hr ih1 ih2 => rw [rnL]; exact ⟨(rnV_iff _).2 ⟨hn, ih1⟩, ih2⟩
theorem VAt.rn {w : World} {lo : Nat} {v : Vl} {a : Option Addr} {c : Nat} (h : VAt w lo v a c) : rnV v := (rnV_iff v).2 ⟨h.hn, h.hr.rn⟩
theorem Vl.ext4 {x y : Vl} (h1 : x.nu = y.nu) (h2 : x.num = y.num) (h3 : x.tx = y.tx) (h4 : x.ls = y.ls) : x = y := by
  cases x; cases y
  simp only [Vl.nu, Vl.num, Vl.tx, Vl.ls] at *
  subst h1; subst h2; subst h3; subst h4; rfl
theorem fit_null {d : Nat} {f : Fld} {x : Vl} (hn : x.nu = true) (h : fitD (d + 1) f x = true) : x.num = 0 ∧ x.tx = [] ∧ x.ls = [] := by
  rw [fitD, if_pos hn] at h
  simp only [Bool.and_eq_true, decide_eq_true_eq] at h
  exact ⟨h.2.1, h.2.2.1, List.eq_nil_of_length_eq_zero h.2.2.2.1⟩
theorem fit_text {d : Nat} {f : Fld} {x : Vl} (hn : x.nu = false) (hk : f.k = 12 ∨ f.k = 13 ∨ f.k = 14) (h : fitD (d + 1) f x = true) : x.num = 0 ∧ x.ls = [] := by
  rw [fitD, if_neg (by simp [hn]), if_neg (by omega), if_neg (by omega), if_neg (by omega), if_pos hk] at h
  simp only [Bool.and_eq_true, decide_eq_true_eq] at h
  exact ⟨h.2.1, List.eq_nil_of_length_eq_zero h.2.2.1⟩
theorem fit_num {d : Nat} {f : Fld} {x : Vl} (hn : x.nu = false) (h1 : ¬ (f.k = 19 ∨ f.k = 20)) (h2 : ¬ f.k = 18) (h3 : ¬ (f.k = 15 ∨ f.k = 16 ∨ f.k = 17)) (h4 : ¬ (f.k = 12 ∨ f.k = 13 ∨ f.k = 14)) (h : fitD (d + 1) f x = true) : x.tx = [] ∧ x.ls = [] := by
  rw [fitD, if_neg (by simp [hn]), if_neg h1, if_neg h2, if_neg h3, if_neg h4] at h
  simp only [Bool.and_eq_true, decide_eq_true_eq] at h
  exact ⟨h.2.1, List.eq_nil_of_length_eq_zero h.2.2.1⟩
theorem fit_union_tx {d : Nat} {f : Fld} {x : Vl} (hn : x.nu = false) (hk : f.k = 18) (h : fitD (d + 1) f x = true) : x.tx = [] := by
  rw [fitD, if_neg (by simp [hn]), if_neg (by omega), if_pos hk] at h
  simp only [Bool.and_eq_true, decide_eq_true_eq] at h
  exact h.2.1
theorem ord_nulls {o : Vl → Vl → Int} {S : Vl → Prop} (hS : ∀ x y, S x → S y → x.nu = true → y.nu = true → x = y) (h : OrdS o (fun x => S x ∧ x.nu = false)) :
    OrdS (fun x y => if (x.nu || y.nu) = true then (if (x.nu && y.nu) = true then 0 else if x.nu = true then -1 else 1) else o x y) S := by
  refine ⟨fun x y hx hy => ?_, fun x y hx hy => ?_, fun x y z hx hy hz => ?_, fun x y hx hy => ?_⟩
  · rcases hxn : x.nu <;> rcases hyn : y.nu <;> simp [hxn, hyn]
    exact h.rng x y ⟨hx, hxn⟩ ⟨hy, hyn⟩
  · rcases hxn : x.nu <;> rcases hyn : y.nu <;> simp [hxn, hyn]
    exact h.anti x y ⟨hx, hxn⟩ ⟨hy, hyn⟩
  · rcases hxn : x.nu <;> rcases hyn : y.nu <;> rcases hzn : z.nu <;> simp [hxn, hyn, hzn]
    exact h.tr x y z ⟨hx, hxn⟩ ⟨hy, hyn⟩ ⟨hz, hzn⟩
  · rcases hxn : x.nu <;> rcases hyn : y.nu <;> simp [hxn, hyn]
    · exact h.eq x y ⟨hx, hxn⟩ ⟨hy, hyn⟩
    · exact hS x y hx hy hxn hyn
theorem ord_lex {p : Vl → Int} {q : Vl → Vl → Int} {S : Vl → Prop} (h : ∀ n, OrdS q (fun x => S x ∧ p x = n)) : OrdS (fun x y => if p x ≠ p y then cmpZ (p x) (p y) else q x y) S := by
  refine ⟨fun x y hx hy => ?_, fun x y hx hy => ?_, fun x y z hx hy hz => ?_, fun x y hx hy => ?_⟩
  · show (if p x ≠ p y then cmpZ (p x) (p y) else q x y) = -1 ∨ (if p x ≠ p y then cmpZ (p x) (p y) else q x y) = 0 ∨ (if p x ≠ p y then cmpZ (p x) (p y) else q x y) = 1
    by_cases e : p x = p y
    · rw [if_neg (by simp [e])]; exact (h (p y)).rng x y ⟨hx, e⟩ ⟨hy, rfl⟩
    · rw [if_pos e]; exact ord_Z.rng _ _ trivial trivial
  · show (if p x ≠ p y then cmpZ (p x) (p y) else q x y) = - (if p y ≠ p x then cmpZ (p y) (p x) else q y x)
    by_cases e : p x = p y
    · rw [if_neg (by simp [e]), if_neg (by simp [e])]; exact (h (p y)).anti x y ⟨hx, e⟩ ⟨hy, rfl⟩
    · rw [if_pos e, if_pos (fun e' => e e'.symm)]; exact ord_Z.anti _ _ trivial trivial
  · show (if p x ≠ p y then cmpZ (p x) (p y) else q x y) ≤ 0 → (if p y ≠ p z then cmpZ (p y) (p z) else q y z) ≤ 0 → (if p x ≠ p z then cmpZ (p x) (p z) else q x z) ≤ 0
    intro h1 h2
    by_cases e : p x = p y
    · rw [if_neg (by simp [e])] at h1
      by_cases e2 : p y = p z
      · rw [if_neg (by simp [e2])] at h2
        rw [if_neg (by simp [e, e2])]
        exact (h (p z)).tr x y z ⟨hx, e.trans e2⟩ ⟨hy, e2⟩ ⟨hz, rfl⟩ h1 h2
      · rw [if_pos e2] at h2
        rw [if_pos (fun e' => e2 (e.symm.trans e')), e]
        exact h2
    · rw [if_pos e] at h1
      have h3 : cmpZ (p x) (p y) < 0 := by
        rcases Int.lt_or_eq_of_le h1 with h4 | h4
        · exact h4
        · exact absurd (ord_Z.eq _ _ trivial trivial h4) e
      have h4 : cmpZ (p y) (p z) ≤ 0 := by
        by_cases e2 : p y = p z
        · rw [e2]; have := ord_Z.refl (x := p z) trivial; omega
        · rw [if_pos e2] at h2; exact h2
      have h5 := ord_Z.lt1 trivial trivial trivial h3 h4
      rw [if_pos (fun e' => by rw [e'] at h5; have := ord_Z.refl (x := p z) trivial; omega)]
      omega
  · show (if p x ≠ p y then cmpZ (p x) (p y) else q x y) = 0 → x = y
    intro h1
    by_cases e : p x = p y
    · rw [if_neg (by simp [e])] at h1; exact (h (p y)).eq x y ⟨hx, e⟩ ⟨hy, rfl⟩ h1
    · rw [if_pos e] at h1; exact absurd (ord_Z.eq _ _ trivial trivial h1) e
theorem u64_inj {a b : Int} (ha : -9223372036854775808 ≤ a ∧ a < 9223372036854775808) (hb : -9223372036854775808 ≤ b ∧ b < 9223372036854775808) (h : u64P a = u64P b) : a = b := by
  unfold u64P at h; rw [wrap_u64, wrap_u64] at h; omega
theorem total_inj {a b : Int} (ha : -9223372036854775808 ≤ a ∧ a < 9223372036854775808) (hb : -9223372036854775808 ≤ b ∧ b < 9223372036854775808) (h : totalP a = totalP b) : a = b := by
  unfold totalP at h; split at h <;> split at h <;> omega
theorem ord_D : ∀ (d : Nat) (f : Fld), OrdS (ordD d f) (fun v => fitD d f v = true ∧ rnV v)
  | 0, f => ⟨fun x y hx => absurd hx.1 (by simp [fitD]), fun x y hx => absurd hx.1 (by simp [fitD]), fun x y z hx => absurd hx.1 (by simp [fitD]), fun x y hx => absurd hx.1 (by simp [fitD])⟩
  | d + 1, f => by
    have nulls : ∀ x y, (fitD (d + 1) f x = true ∧ rnV x) → (fitD (d + 1) f y = true ∧ rnV y) → x.nu = true → y.nu = true → x = y := fun x y hx hy h1 h2 => by
      obtain ⟨a1, a2, a3⟩ := fit_null h1 hx.1
      obtain ⟨b1, b2, b3⟩ := fit_null h2 hy.1
      exact Vl.ext4 (h1.trans h2.symm) (a1.trans b1.symm) (a2.trans b2.symm) (a3.trans b3.symm)
    by_cases hA : f.k = 19 ∨ f.k = 20
    · rcases hg : f.sub[0]? with _ | g
      · refine (ord_nulls (o := fun _ _ => 0) nulls ⟨fun x y hx => ?_, fun x y hx => ?_, fun x y z hx => ?_, fun x y hx => ?_⟩).congr (fun x y _ _ => by rw [ordD, if_pos hA, hg])
        all_goals
          have h1 := hx.1.1
          rw [fitD, if_neg (by simp [hx.2]), if_pos hA, hg] at h1
          simp at h1
      · refine (ord_nulls (o := ordD d g) nulls ((ord_D d g).sub (fun x hx => ⟨fit_wrap hx.2 hA hg hx.1.1, hx.1.2⟩))).congr (fun x y _ _ => by rw [ordD, if_pos hA, hg])
    by_cases hU : f.k = 10
    · refine (ord_nulls (o := fun (x y : Vl) => cmpZ (u64P x.num) (u64P y.num)) nulls (ord_Z.map (fun (x : Vl) => u64P x.num) (fun _ _ => trivial) (fun x y hx hy e => ?_))).congr (fun x y _ _ => by rw [ordD, if_neg hA, if_pos hU])
      obtain ⟨a1, a2⟩ := fit_num hx.2 hA (by omega) (by omega) (by omega) hx.1.1
      obtain ⟨b1, b2⟩ := fit_num hy.2 hA (by omega) (by omega) (by omega) hy.1.1
      exact Vl.ext4 (hx.2.trans hy.2.symm) (u64_inj ((rnV_iff x).1 hx.1.2).1 ((rnV_iff y).1 hy.1.2).1 e) (a1.trans b1.symm) (a2.trans b2.symm)
    by_cases hT : f.k = 11
    · refine (ord_nulls (o := fun (x y : Vl) => cmpZ (totalP x.num) (totalP y.num)) nulls (ord_Z.map (fun (x : Vl) => totalP x.num) (fun _ _ => trivial) (fun x y hx hy e => ?_))).congr (fun x y _ _ => by rw [ordD, if_neg hA, if_neg hU, if_pos hT])
      obtain ⟨a1, a2⟩ := fit_num hx.2 hA (by omega) (by omega) (by omega) hx.1.1
      obtain ⟨b1, b2⟩ := fit_num hy.2 hA (by omega) (by omega) (by omega) hy.1.1
      exact Vl.ext4 (hx.2.trans hy.2.symm) (total_inj ((rnV_iff x).1 hx.1.2).1 ((rnV_iff y).1 hy.1.2).1 e) (a1.trans b1.symm) (a2.trans b2.symm)
    by_cases hX : f.k = 12 ∨ f.k = 13 ∨ f.k = 14
    · refine (ord_nulls (o := fun (x y : Vl) => Lib.compareBytes x.tx y.tx) nulls (ord_B.map Vl.tx (fun _ _ => trivial) (fun x y hx hy e => ?_))).congr (fun x y _ _ => by rw [ordD, if_neg hA, if_neg hU, if_neg hT, if_pos hX])
      obtain ⟨a1, a2⟩ := fit_text hx.2 hX hx.1.1
      obtain ⟨b1, b2⟩ := fit_text hy.2 hX hy.1.1
      exact Vl.ext4 (hx.2.trans hy.2.symm) (a1.trans b1.symm) e (a2.trans b2.symm)
    by_cases hC : f.k = 18
    · refine (ord_nulls (o := fun (x y : Vl) => if x.num ≠ y.num then cmpZ x.num y.num else match f.sub[x.num.toNat]?, x.ls[0]?, y.ls[0]? with | some g, some a, some b => ordD d g a b | _, _, _ => 0) nulls (ord_lex (p := Vl.num) (q := fun (x y : Vl) => match f.sub[x.num.toNat]?, x.ls[0]?, y.ls[0]? with | some g, some a, some b => ordD d g a b | _, _, _ => 0) (fun n => ?_))).congr (fun x y _ _ => by rw [ordD, if_neg hA, if_neg hU, if_neg hT, if_neg hX, if_pos hC]; rfl)
      have key : ∀ x, (((fitD (d + 1) f x = true ∧ rnV x) ∧ x.nu = false) ∧ x.num = n) → ∃ g z, f.sub[n.toNat]? = some g ∧ x.ls = [z] ∧ x.tx = [] ∧ fitD d g z = true ∧ rnV z := fun x hx => by
        obtain ⟨g, z, h1, h2, h3, _, _, h4⟩ := fit_union hx.1.2 hC hx.1.1.1
        rw [hx.2] at h1
        obtain ⟨z', hz'⟩ := List.length_eq_one_iff.1 h3
        have : z' = z := by rw [hz'] at h2; simpa using h2
        subst this
        exact ⟨g, z', h1, hz', fit_union_tx hx.1.2 hC hx.1.1.1, h4, rnL_get ((rnV_iff x).1 hx.1.1.2).2 h2⟩
      rcases hg : f.sub[n.toNat]? with _ | g
      · refine ⟨fun x y hx => ?_, fun x y hx => ?_, fun x y z hx => ?_, fun x y hx => ?_⟩
        all_goals
          obtain ⟨g, z, h1, _⟩ := key x hx
          rw [hg] at h1; cases h1
      · refine ((ord_D d g).map (fun x => x.ls.headD x) (S := fun x => ((fitD (d + 1) f x = true ∧ rnV x) ∧ x.nu = false) ∧ x.num = n) (fun x hx => ?_) (fun x y hx hy e => ?_)).congr (fun x y hx hy => ?_)
        · obtain ⟨g', z, h1, h2, h3, h4, h5⟩ := key x hx
          rw [hg] at h1; cases h1
          simp only [h2, List.headD_cons]
          exact ⟨h4, h5⟩
        · obtain ⟨g1, z1, h1, h2, h3, h4, h5⟩ := key x hx
          obtain ⟨g2, z2, q1, q2, q3, q4, q5⟩ := key y hy
          simp only [h2, q2, List.headD_cons] at e
          exact Vl.ext4 (hx.1.2.trans hy.1.2.symm) (hx.2.trans hy.2.symm) (h3.trans q3.symm) (by rw [h2, q2, e])
        · obtain ⟨g1, z1, h1, h2, h3, h4, h5⟩ := key x hx
          obtain ⟨g2, z2, q1, q2, q3, q4, q5⟩ := key y hy
          simp only [hx.2, hg, h2, q2, List.headD_cons, List.getElem?_cons_zero]
    by_cases hM : f.k = 15 ∨ f.k = 16 ∨ f.k = 17
    · refine (ord_nulls (o := fun (x y : Vl) => ordLs (ordI d f) 0 x.ls y.ls) nulls ((ord_L (o := ordI d f) (S := fun i v => ∃ g, f.sub[childN f i]? = some g ∧ fitD d g v = true ∧ rnV v) (fun i => ?_)).map Vl.ls (fun x hx => ?_) (fun x y hx hy e => ?_))).congr (fun x y _ _ => by rw [ordD, if_neg hA, if_neg hU, if_neg hT, if_neg hX, if_neg hC, if_pos hM]; rfl)
      · rcases hg : f.sub[childN f i]? with _ | g
        · refine ⟨fun x y hx => ?_, fun x y hx => ?_, fun x y z hx => ?_, fun x y hx => ?_⟩
          all_goals
            obtain ⟨g, h1, _⟩ := hx
            cases h1
        · exact ((ord_D d g).congr (o' := ordI d f i) (fun x y _ _ => by unfold ordI; rw [hg])).sub (fun x hx => by
            obtain ⟨g', h1, h2⟩ := hx
            cases h1
            exact h2)
      · obtain ⟨_, _, _, _, h5⟩ := fit_list hx.2 hM hx.1.1
        refine SL_of (fun j z hz => ?_)
        obtain ⟨g, h6, h7⟩ := h5 j z hz
        exact ⟨g, by rw [Nat.zero_add]; exact h6, h7, rnL_get ((rnV_iff x).1 hx.1.2).2 hz⟩
      · obtain ⟨_, _, a1, a2, _⟩ := fit_list hx.2 hM hx.1.1
        obtain ⟨_, _, b1, b2, _⟩ := fit_list hy.2 hM hy.1.1
        exact Vl.ext4 (hx.2.trans hy.2.symm) (a1.trans b1.symm) (a2.trans b2.symm) e
    · refine (ord_nulls (o := fun (x y : Vl) => cmpZ x.num y.num) nulls (ord_Z.map Vl.num (fun _ _ => trivial) (fun x y hx hy e => ?_))).congr (fun x y _ _ => by rw [ordD, if_neg hA, if_neg hU, if_neg hT, if_neg hX, if_neg hC, if_neg hM])
      obtain ⟨a1, a2⟩ := fit_num hx.2 hA hC hM hX hx.1.1
      obtain ⟨b1, b2⟩ := fit_num hy.2 hA hC hM hX hy.1.1
      exact Vl.ext4 (hx.2.trans hy.2.symm) e (a1.trans b1.symm) (a2.trans b2.symm)
end Go.Proofs.YtjkogfiidhjpcaaDoor
