/- YtdmdgkpjjpijdaaGreatDoor: walks, part 20: the reference's small functions of kind. -/
import Derived.Test.YtdmdgkpjjpijdaaGreatDoorW8
import Derived.Test.YtdmdgkpjjpijdaaGreatDoorW10
import Derived.Test.YtdmdgkpjjpijdaaGreatDoorW3
namespace Go.Proofs.YtdmdgkpjjpijdaaGreatDoor
open Go Go.K
set_option maxRecDepth 100000
set_option linter.unusedVariables false
set_option linter.unusedSimpArgs false
set_option maxHeartbeats 4000000
theorem letterR_walk (w : World) (c : Int) : Calls Tryz.prog 105 #[.int .u8 c] w (Rets w (Is (.bool (decide (letterP c))))) := by
  refine enterT (args := [.int .u8 c]) Tryz.func105 rfl Tryz.ntmps105 (congrArg Array.toList Tryz.results105) (by kernel_rfl) (by simp) (Sy.refl w) ?_
  simp (disch:=omega) only[push_cast,Nat.reduceEqDiff]
  repeat' (first | ((first | refine guardX_t rfl (fun h => ?_) (fun h => ?_) | refine guardX_f rfl (fun h => ?_) (fun h => ?_) | refine condX_d (fun h => ?_) (fun h => ?_) | (refine guardX_bt rfl (fun h => ?_) (fun h => ?_) <;> (try subst h)) | (refine guardX_bf rfl (fun h => ?_) (fun h => ?_) <;> (try subst h)) | (refine condX_b (fun h => ?_) (fun h => ?_) <;> (try subst h)) | refine ldOne Shp.eq (by (first | exact mem0 | exact mem1 | exact mem2 | exact mem3)) rfl ?_ | refine loadX_agg Shp.eq (by (first | exact mem0 | exact mem1 | exact mem2 | exact mem3)) rfl rfl ?_ | refine newI (fun b hb hn => ?_) | refine storeX 0 rfl Siz.eq rfl rfl (by simp [Value.oneCell']) (by simp) ?_ | refine storeX 1 rfl Siz.eq rfl rfl (by simp [Value.oneCell']) (by simp) ?_ | refine storeX 2 rfl Siz.eq rfl rfl (by simp [Value.oneCell']) (by simp) ?_ | refine storeX 3 rfl Siz.eq rfl rfl (by simp [Value.oneCell']) (by simp) ?_) <;> simp (disch:=omega) only[push_cast,Nat.reduceEqDiff]) | (first | rw [V_cond] | rw [V_block]) <;> (try simp (disch:=omega) only[push_cast,Nat.reduceEqDiff]))
  all_goals (refine fun w' hw => ⟨_,rfl,hw,?_⟩; first | exact is_t (by omega) | exact is_f (by omega) | exact is_d (by omega))
structure NameRI (w0 : World) (l : List UInt8) (k : Nat) (wb : World) (e : Env) (ds : List Deferred) (L : Own) : Prop where
  hw : wb = w0
  d : ds = []
  o : L = []
  kl : k ≤ l.length
  n : ∀ j,j < k → letterP (l.getD j 0).toNat
  h0 : e 0 = str l
  h3 : e 3 = i64 k
theorem isNameR_walk (w : World) (l : List UInt8) (hl : l.length ≤ 9223372036854775807) : Calls Tryz.prog 94 #[str l] w (Rets w fun v _ => ∃ b,v = .bool b ∧ (b = true ↔ isName l)) := by
  refine enterT (args := [str l]) Tryz.func94 rfl Tryz.ntmps94 (congrArg Array.toList Tryz.results94) (by kernel_rfl) (by simp) (Sy.refl w) ?_
  simp (disch:=omega) only[push_cast,Nat.reduceEqDiff]
  have bad : (l.length < 1 ∨ 48 < l.length ∨ (48 ≤ (l.getD 0 0).toNat ∧ (l.getD 0 0).toNat ≤ 57)) → ¬ isName l := fun h hn => by
    obtain ⟨h1,h2,h3⟩ := hn
    have hpos : 0 < l.length := by
      rcases Nat.eq_zero_or_pos l.length with h | h
      · exact absurd (List.eq_nil_of_length_eq_zero h) h2
      · exact h
    have := (h1 0 hpos).2
    omega
  repeat' (first | ((first | refine guardX_t rfl (fun h => ?_) (fun h => ?_) | refine guardX_f rfl (fun h => ?_) (fun h => ?_) | refine condX_d (fun h => ?_) (fun h => ?_) | (refine guardX_bt rfl (fun h => ?_) (fun h => ?_) <;> (try subst h)) | (refine guardX_bf rfl (fun h => ?_) (fun h => ?_) <;> (try subst h)) | (refine condX_b (fun h => ?_) (fun h => ?_) <;> (try subst h)) | refine ldOne Shp.eq (by (first | exact mem0 | exact mem1 | exact mem2 | exact mem3)) rfl ?_ | refine loadX_agg Shp.eq (by (first | exact mem0 | exact mem1 | exact mem2 | exact mem3)) rfl rfl ?_ | refine newI (fun b hb hn => ?_) | refine storeX 0 rfl Siz.eq rfl rfl (by simp [Value.oneCell']) (by simp) ?_ | refine storeX 1 rfl Siz.eq rfl rfl (by simp [Value.oneCell']) (by simp) ?_ | refine storeX 2 rfl Siz.eq rfl rfl (by simp [Value.oneCell']) (by simp) ?_ | refine storeX 3 rfl Siz.eq rfl rfl (by simp [Value.oneCell']) (by simp) ?_) <;> simp (disch:=omega) only[push_cast,Nat.reduceEqDiff]) | (first | rw [V_cond] | rw [V_block]) <;> (try simp (disch:=omega) only[push_cast,Nat.reduceEqDiff]))
  all_goals first
    | (refine fun w' hw => ⟨_,rfl,hw,_,rfl,?_⟩; exact ⟨fun h => (by cases h),fun h => absurd h (bad (by omega))⟩)
    | skip
  all_goals
    refine loopT (G := Nat) (NameRI w l) (fun k => l.length - k) 0 (by kernel_rfl) ⟨rfl,rfl,rfl,by omega,fun j h => by omega,rfl,rfl⟩ ?_
    rintro k wb e ds L ⟨rfl,rfl,rfl,hk,hn,h0,h3⟩
    simp (disch:=omega) only[push_cast,Nat.reduceEqDiff,h0,h3]
    rw [V_cond]
    simp (disch:=omega) only[push_cast,Nat.reduceEqDiff,h0,h3]
    refine condX_d (fun hlt => ?_) (fun hge => ?_)
    · simp (disch:=omega) only[push_cast,Nat.reduceEqDiff,h0,h3]
      rw [V_block]
      simp (disch:=omega) only[push_cast,Nat.reduceEqDiff,h0,h3]
      refine callV en_105 (callX_is (fun w _ => letterR_walk w _) ?_)
      simp (disch:=omega) only[push_cast,Nat.reduceEqDiff,h0,h3]
      rw [V_cond]
      simp (disch:=omega) only[push_cast,Nat.reduceEqDiff,h0,h3]
      refine condX_d (fun hb => ?_) (fun hb => ?_)
      · simp (disch:=omega) only[push_cast,Nat.reduceEqDiff,h0,h3]
        refine fun w' hw => ⟨_,rfl,hw,_,rfl,?_⟩
        exact ⟨fun h => (by cases h),fun h => absurd (h.1 k (by omega)).1 hb⟩
      · simp (disch:=omega) only[push_cast,Nat.reduceEqDiff,h0,h3]
        refine ⟨k + 1,⟨rfl,rfl,rfl,by omega,fun j hj => ?_,h0,by simp only [upd]; rfl⟩,by omega⟩
        rcases Nat.lt_or_ge j k with h | h
        · exact hn j h
        · obtain rfl : j = k := by omega
          exact Decidable.not_not.1 hb
    · obtain rfl : k = l.length := by omega
      simp (disch:=omega) only[push_cast,Nat.reduceEqDiff,h0,h3]
      refine fun w' hw => ⟨_,rfl,hw,_,rfl,?_⟩
      refine ⟨fun _ => ⟨fun j hj => ⟨hn j hj,fun h => ?_⟩,fun h => ?_,by omega⟩,fun _ => rfl⟩
      · omega
      · have h9 := congrArg List.length h
        simp only [List.length_nil] at h9
        omega
theorem nullsR_walk (w : World) (f : Fld) (a : Option Addr) (c : Nat) (hk : f.k = 20 → f.sub ≠ []) (hr : Rd w w.heap.size a f.sub) :
    Calls Tryz.prog 96 #[.agg (f.cells a c).toArray] w (Rets w (Is (.bool (nullsB f)))) := by
  refine enterT (args := [.agg (f.cells a c).toArray]) Tryz.func96 rfl Tryz.ntmps96 (congrArg Array.toList Tryz.results96) (by kernel_rfl) (by simp) (Sy.refl w) ?_
  simp (disch:=omega) only[push_cast,Nat.reduceEqDiff,Fld.cells]
  repeat' (first | ((first | refine guardX_t rfl (fun h => ?_) (fun h => ?_) | refine guardX_f rfl (fun h => ?_) (fun h => ?_) | refine condX_d (fun h => ?_) (fun h => ?_) | (refine guardX_bt rfl (fun h => ?_) (fun h => ?_) <;> (try subst h)) | (refine guardX_bf rfl (fun h => ?_) (fun h => ?_) <;> (try subst h)) | (refine condX_b (fun h => ?_) (fun h => ?_) <;> (try subst h)) | refine ldOne Shp.eq (by (first | exact mem0 | exact mem1 | exact mem2 | exact mem3)) rfl ?_ | refine loadX_agg Shp.eq (by (first | exact mem0 | exact mem1 | exact mem2 | exact mem3)) rfl rfl ?_ | refine newI (fun b hb hn => ?_) | refine storeX 0 rfl Siz.eq rfl rfl (by simp [Value.oneCell']) (by simp) ?_ | refine storeX 1 rfl Siz.eq rfl rfl (by simp [Value.oneCell']) (by simp) ?_ | refine storeX 2 rfl Siz.eq rfl rfl (by simp [Value.oneCell']) (by simp) ?_ | refine storeX 3 rfl Siz.eq rfl rfl (by simp [Value.oneCell']) (by simp) ?_) <;> simp (disch:=omega) only[push_cast,Nat.reduceEqDiff]) | (first | rw [V_cond] | rw [V_block]) <;> (try simp (disch:=omega) only[push_cast,Nat.reduceEqDiff]))
  case refine_2.refine_2.refine_1 =>
    rename_i h2 h
    obtain ⟨g,l,hl⟩ : ∃ g l,f.sub = g :: l := List.exists_cons_of_ne_nil (hk h)
    have hlen : 0 < f.sub.length := by rw [hl]; simp
    rw [hl] at hr
    obtain ⟨b',off,rfl,hb'⟩ := hr.some_of
    obtain ⟨a',c',x1,x2,x3⟩ := hr.get 0 rfl
    refine drawQT (by kernel_rfl) (by kernel_rfl) mixed (by kernel_rfl) ?_
    simp (disch:=omega) only[push_cast,Nat.reduceEqDiff]
    repeat' (first | ((first | refine guardX_t rfl (fun h => ?_) (fun h => ?_) | refine guardX_f rfl (fun h => ?_) (fun h => ?_) | refine condX_d (fun h => ?_) (fun h => ?_) | (refine guardX_bt rfl (fun h => ?_) (fun h => ?_) <;> (try subst h)) | (refine guardX_bf rfl (fun h => ?_) (fun h => ?_) <;> (try subst h)) | (refine condX_b (fun h => ?_) (fun h => ?_) <;> (try subst h)) | refine ldOne Shp.eq (by (first | exact mem0 | exact mem1 | exact mem2 | exact mem3)) rfl ?_ | refine loadX_agg Shp.eq (by (first | exact mem0 | exact mem1 | exact mem2 | exact mem3)) rfl rfl ?_ | refine newI (fun b hb hn => ?_) | refine storeX 0 rfl Siz.eq rfl rfl (by simp [Value.oneCell']) (by simp) ?_ | refine storeX 1 rfl Siz.eq rfl rfl (by simp [Value.oneCell']) (by simp) ?_ | refine storeX 2 rfl Siz.eq rfl rfl (by simp [Value.oneCell']) (by simp) ?_ | refine storeX 3 rfl Siz.eq rfl rfl (by simp [Value.oneCell']) (by simp) ?_) <;> simp (disch:=omega) only[push_cast,Nat.reduceEqDiff]) | (first | rw [V_cond] | rw [V_block]) <;> (try simp (disch:=omega) only[push_cast,Nat.reduceEqDiff]))
    refine ldF (by exact sh_4) (x2.sub 1 [.bool g.nl] rfl) (out_of (by simp only [List.mem_singleton]; rintro p rfl; simp only; omega)) ?_
    simp (disch:=omega) only[push_cast,Nat.reduceEqDiff]
    refine fun w' hw => ⟨_,rfl,hw.drop (List.nil_sublist _) (fun p hp => .inr (by simp at hp; rw [hp]; assumption)),?_⟩
    simp only [Is,nullsB,h,hl,h2,if_true,if_false]
    rfl
  all_goals (refine fun w' hw => ⟨_,rfl,hw.drop (List.nil_sublist _) (fun p hp => .inr (by simp at hp; rw [hp]; assumption)),?_⟩)
  all_goals simp only [Is,nullsB,if_true,if_false, *]
  all_goals simp
end Go.Proofs.YtdmdgkpjjpijdaaGreatDoor
namespace Go.Proofs.YtdmdgkpjjpijdaaGreatDoor
open Go Go.K
set_option maxRecDepth 100000
set_option linter.unusedVariables false
set_option linter.unusedSimpArgs false
inductive PR (α : Type) where
  | no (q : Nat)
  | ok (x : α) (q : Nat)
def PR.and {α β : Type} : PR α → (α → Nat → PR β) → PR β
  | .no q,_ => .no q
  | .ok x q,f => f x q
theorem PR.and_no {α β : Type} (q : Nat) (f : α → Nat → PR β) : PR.and (.no q) f = .no q := rfl
theorem PR.and_ok {α β : Type} (x : α) (q : Nat) (f : α → Nat → PR β) : PR.and (.ok x q) f = f x q := rfl
theorem PR.and_and {α β γ : Type} (r : PR α) (f : α → Nat → PR β) (g : β → Nat → PR γ) : (r.and f).and g = r.and fun x q => (f x q).and g := by cases r <;> rfl
theorem PR.and_eq_ok {α β : Type} {r : PR α} {f : α → Nat → PR β} {y : β} {q : Nat} (h : r.and f = .ok y q) : ∃ x p,r = .ok x p ∧ f x p = .ok y q := by
  cases r with
  | no p => cases h
  | ok x p => exact ⟨x,p,rfl,h⟩
def runP (f : UInt8 → Bool) (s : List UInt8) (p : Nat) : Nat := p + ((s.drop p).takeWhile f).length
theorem runP_step {f : UInt8 → Bool} {s : List UInt8} {p : Nat} {c : UInt8} (h : s[p]? = some c) (hf : f c = true) : runP f s p = runP f s (p + 1) := by
  obtain ⟨h1,rfl⟩ := List.getElem?_eq_some_iff.1 h
  unfold runP
  rw [List.drop_eq_getElem_cons h1,List.takeWhile_cons,if_pos hf,List.length_cons]
  omega
theorem runP_stop {f : UInt8 → Bool} {s : List UInt8} {p : Nat} {c : UInt8} (h : s[p]? = some c) (hf : f c = false) : runP f s p = p := by
  obtain ⟨h1,rfl⟩ := List.getElem?_eq_some_iff.1 h
  unfold runP
  rw [List.drop_eq_getElem_cons h1,List.takeWhile_cons,if_neg (by rw [hf]; decide)]
  rfl
theorem runP_end {f : UInt8 → Bool} {s : List UInt8} {p : Nat} (h : s.length ≤ p) : runP f s p = p := by
  unfold runP
  rw [List.drop_of_length_le h]
  rfl
theorem runP_ge (f : UInt8 → Bool) (s : List UInt8) (p : Nat) : p ≤ runP f s p := Nat.le_add_right _ _
theorem runP_le {f : UInt8 → Bool} {s : List UInt8} {p : Nat} (h : p ≤ s.length) : runP f s p ≤ s.length := by
  have h1 := (List.takeWhile_sublist (p := f) (l := s.drop p)).length_le
  rw [List.length_drop] at h1
  unfold runP
  omega
theorem runP_out {f : UInt8 → Bool} {s : List UInt8} : ∀ (n p : Nat),s.length - p ≤ n → ∀ c,s[runP f s p]? = some c → f c = false
  | 0,p,hn,c,h => by
    rw [runP_end (by omega)] at h
    have := (List.getElem?_eq_some_iff.1 h).1
    omega
  | n + 1,p,hn,c,h => by
    rcases Nat.lt_or_ge p s.length with hp | hp
    · have hd : s[p]? = some s[p] := List.getElem?_eq_getElem hp
      cases hf : f s[p] with
      | true =>
        rw [runP_step hd hf] at h
        exact runP_out n (p + 1) (by omega) c h
      | false =>
        rw [runP_stop hd hf] at h
        rw [hd] at h
        cases h
        exact hf
    · rw [runP_end hp] at h
      have := (List.getElem?_eq_some_iff.1 h).1
      omega
theorem runP_idem (f : UInt8 → Bool) (s : List UInt8) (p : Nat) : runP f s (runP f s p) = runP f s p := by
  rcases Nat.lt_or_ge (runP f s p) s.length with h | h
  · have hd : s[runP f s p]? = some s[runP f s p] := List.getElem?_eq_getElem h
    exact runP_stop hd (runP_out _ p (Nat.le_refl _) _ hd)
  · exact runP_end h
def blankB (c : UInt8) : Bool := decide (c = 32 ∨ c = 9 ∨ c = 10)
def letB (c : UInt8) : Bool := decide (letterP c.toNat)
abbrev blP (s : List UInt8) (p : Nat) : Nat := runP blankB s p
abbrev weP (s : List UInt8) (p : Nat) : Nat := runP letB s p
def pWord (s : List UInt8) (q : Nat) : PR (List UInt8) := if weP s q = q then .no q else .ok ((s.take (weP s q)).drop q) (blP s (weP s q))
def pSign (s : List UInt8) (c : UInt8) (q : Nat) : Option Nat := if s[q]? = some c then some (blP s (q + 1)) else none
def pMust (s : List UInt8) (c : UInt8) (q : Nat) : PR Unit := match pSign s c q with
  | some r => .ok () r
  | none => .no q
def digB (c : UInt8) : Bool := decide (48 ≤ c.toNat ∧ c.toNat ≤ 57)
def numOK (w : List UInt8) : Bool := decide (w.length ≤ 4) && w.all digB && (decide (w.length = 1) || decide (w.head? ≠ some 48))
def numOf (w : List UInt8) : Nat := w.foldl (fun n c => 10 * n + (c.toNat - 48)) 0
def pNum (s : List UInt8) (q : Nat) : PR Nat := (pWord s q).and fun w r => if numOK w then .ok (numOf w) r else .no q
def kindW (w : List UInt8) : Nat := (((List.range 21).drop 1).find? fun k => saysWord k == w).getD 0
def pKind (s : List UInt8) (lets : Nat → Bool) (q : Nat) : PR Nat := (pWord s q).and fun w r => if kindW w ≠ 0 ∧ lets (kindW w) = true then .ok (kindW w) r else .no q
inductive Sp where
  | mk (at_ : Nat) (kids : List Sp)
def Sp.at_ : Sp → Nat
  | .mk a _ => a
def Sp.kids : Sp → List Sp
  | .mk _ l => l
abbrev Fz : Type := Fld × Sp
def pMany (s : List UInt8) (F : Nat → PR Fz) : Nat → Nat → PR (List Fz)
  | 0,q => .no q
  | m + 1,q => (F q).and fun x r => match pSign s 44 r with
    | none => .ok [x] r
    | some r2 => (pMany s F m r2).and fun l r3 => .ok (x :: l) r3
structure Ty where
  k : Nat
  wd : Nat
  id : Nat
  ix : Nat
  l : List Fz
def one (F : Nat → PR Fz) (q : Nat) : PR (List Fz) := (F q).and fun x r => .ok [x] r
def pInner (s : List UInt8) (F : Nat → PR Fz) (k : Nat) (q : Nat) : PR Ty :=
  if k = 14 then (pNum s q).and fun n r => .ok ⟨k,n,0,0,[]⟩ r
  else if k = 16 then (pNum s q).and fun n r => (pMust s 44 r).and fun _ r => (one F r).and fun l r => .ok ⟨k,n,0,0,l⟩ r
  else if k = 19 then (pNum s q).and fun n r => (pMust s 44 r).and fun _ r => (pKind s saysIdx r).and fun i r => (pMust s 44 r).and fun _ r => (one F r).and fun l r => .ok ⟨k,0,n,i,l⟩ r
  else if k = 18 then (pMany s F (s.length + 1) q).and fun l r => .ok ⟨k,0,0,0,l⟩ r
  else if k = 17 then if s[q]? = some 41 then .ok ⟨k,0,0,0,[]⟩ q else (pMany s F (s.length + 1) q).and fun l r => .ok ⟨k,0,0,0,l⟩ r
  else (one F q).and fun l r => .ok ⟨k,0,0,0,l⟩ r
def pTyped (s : List UInt8) (F : Nat → PR Fz) (q : Nat) : PR Ty :=
  (pKind s (fun _ => true) q).and fun k r => if k < 14 then .ok ⟨k,0,0,0,[]⟩ r
    else (pMust s 40 r).and fun _ r => (pInner s F k r).and fun t r => (pMust s 41 r).and fun _ r => .ok t r
def mkF (nm : List UInt8) (nl : Bool) (t : Ty) (q : Nat) : Fz := (.mk nm nl t.k t.wd t.id t.ix (t.l.map (·.1)),.mk q (t.l.map (·.2)))
def pField (s : List UInt8) : Nat → Nat → PR Fz
  | 0,q => .no q
  | d + 1,q => (pWord s q).and fun nm r => (pTyped s (pField s d) r).and fun t r => match pSign s 63 r with
    | some r2 => .ok (mkF nm true t q) r2
    | none => .ok (mkF nm false t q) r
def hexV (c : UInt8) : Option Nat := ([48,49,50,51,52,53,54,55,56,57,97,98,99,100,101,102] : List UInt8).findIdx? (· == c)
def pEsc (s : List UInt8) (p : Nat) : PR UInt8 := match s[p + 1]? with
  | none => .no s.length
  | some c => if c = 34 ∨ c = 92 then .ok c (p + 2) else if c ≠ 120 then .no p else match s[p + 2]? with
    | none => .no s.length
    | some a => match hexV a with
      | none => .no p
      | some x => match s[p + 3]? with
        | none => .no s.length
        | some b => match hexV b with
          | none => .no p
          | some y => .ok (UInt8.ofNat (16 * x + y)) (p + 4)
def pRest (s : List UInt8) : Nat → Nat → PR (List UInt8)
  | 0,p => .no s.length
  | m + 1,p => match s[p]? with
    | none => .no s.length
    | some c => if c = 34 then .ok [] (p + 1) else if c = 92 then (pEsc s p).and fun x r => (pRest s m r).and fun l r2 => .ok (x :: l) r2
      else if 32 ≤ c.toNat ∧ c.toNat ≤ 126 then (pRest s m (p + 1)).and fun l r2 => .ok (c :: l) r2 else .no p
def pQuote (s : List UInt8) (q : Nat) : PR (List UInt8) := if s[q]? = some 34 then (pRest s (s.length + 1) (q + 1)).and fun t r => .ok t (blP s r) else .no q
abbrev NoteQ : Type := List UInt8 × List UInt8
def pNotes (s : List UInt8) : Nat → Nat → PR (List NoteQ)
  | 0,q => .no q
  | m + 1,q => (pQuote s q).and fun k r => (pQuote s r).and fun t r => match pSign s 44 r with
    | none => .ok [(k,t)] r
    | some r2 => (pNotes s m r2).and fun l r3 => .ok ((k,t) :: l) r3
def pEnd {α : Type} (s : List UInt8) (x : α) (q : Nat) : PR α := if q < s.length then .no q else .ok x q
def pFields (s : List UInt8) (q : Nat) : PR (List Fz) := pMany s (pField s (s.length + 1)) (s.length + 1) q
def pHead (s : List UInt8) (q : Nat) : PR (List Fz) := if q < s.length ∧ s[q]? ≠ some 124 then pFields s q else .ok [] q
def pTail (s : List UInt8) (q : Nat) : PR (List NoteQ) := match pSign s 124 q with
  | some r => pNotes s (s.length + 1) r
  | none => .ok [] q
def pSchema (s : List UInt8) : PR (List Fz × List NoteQ) := (pHead s (blP s 0)).and fun l q => (pTail s q).and fun n q => pEnd s (l,n) q
def pOne (s : List UInt8) : PR Fz := (pField s (s.length + 1) (blP s 0)).and fun x q => pEnd s x q
/-! Places go on, and stay within the text. -/
theorem pSign_le {s : List UInt8} {c : UInt8} {q r : Nat} (h : pSign s c q = some r) : q < r ∧ r ≤ s.length ∧ blP s r = r := by
  unfold pSign at h
  split at h
  · rename_i h1
    cases h
    have h2 := (List.getElem?_eq_some_iff.1 h1).1
    exact ⟨Nat.lt_of_lt_of_le (Nat.lt_succ_self q) (runP_ge _ _ _),runP_le (by omega),runP_idem _ _ _⟩
  · cases h
theorem pMust_ok {s : List UInt8} {c : UInt8} {q r : Nat} {u : Unit} (h : pMust s c q = .ok u r) : pSign s c q = some r := by
  unfold pMust at h
  split at h
  · rename_i h1
    cases h
    exact h1
  · cases h
theorem pWord_le {s : List UInt8} {q r : Nat} {w : List UInt8} (hq : q ≤ s.length) (h : pWord s q = .ok w r) : q < r ∧ r ≤ s.length ∧ blP s r = r := by
  unfold pWord at h
  split at h
  · cases h
  · rename_i h1
    cases h
    have h2 : q ≤ weP s q := runP_ge letB s q
    have h3 : weP s q ≤ s.length := runP_le hq
    exact ⟨Nat.lt_of_lt_of_le (by omega) (runP_ge _ _ _),runP_le h3,runP_idem _ _ _⟩
theorem pNum_le {s : List UInt8} {q r n : Nat} (hq : q ≤ s.length) (h : pNum s q = .ok n r) : q < r ∧ r ≤ s.length ∧ blP s r = r := by
  obtain ⟨w,p,h1,h2⟩ := PR.and_eq_ok h
  split at h2
  · cases h2
    exact pWord_le hq h1
  · cases h2
theorem pKind_le {s : List UInt8} {lets : Nat → Bool} {q r n : Nat} (hq : q ≤ s.length) (h : pKind s lets q = .ok n r) : q < r ∧ r ≤ s.length ∧ blP s r = r := by
  obtain ⟨w,p,h1,h2⟩ := PR.and_eq_ok h
  split at h2
  · cases h2
    exact pWord_le hq h1
  · cases h2
def Goes {α : Type} (s : List UInt8) (F : Nat → PR α) : Prop := ∀ q r x,q ≤ s.length → F q = .ok x r → q < r ∧ r ≤ s.length ∧ blP s r = r
theorem one_goes {s : List UInt8} {F : Nat → PR Fz} (hF : Goes s F) : Goes s (one F) := by
  intro q r x hq h
  obtain ⟨y,p,h1,h2⟩ := PR.and_eq_ok h
  cases h2
  exact hF _ _ _ hq h1
theorem pMany_goes {s : List UInt8} {F : Nat → PR Fz} (hF : Goes s F) : ∀ m,Goes s (pMany s F m)
  | 0,q,r,x,hq,h => by cases h
  | m + 1,q,r,x,hq,h => by
    rw [pMany] at h
    obtain ⟨y,p,h1,h2⟩ := PR.and_eq_ok h
    have h3 := hF _ _ _ hq h1
    split at h2
    · cases h2; exact h3
    · rename_i r2 h4
      obtain ⟨l,r3,h5,h6⟩ := PR.and_eq_ok h2
      cases h6
      have h7 := pSign_le h4
      have h8 := pMany_goes hF m _ _ _ h7.2.1 h5
      exact ⟨by omega,h8.2⟩
theorem pInner_goes {s : List UInt8} {F : Nat → PR Fz} (hF : Goes s F) {k q r : Nat} {t : Ty} (hq : q ≤ s.length) (hb : blP s q = q) (h : pInner s F k q = .ok t r) : q ≤ r ∧ r ≤ s.length ∧ blP s r = r := by
  have hM := pMany_goes hF (s.length + 1)
  have hO := one_goes hF
  unfold pInner at h
  split at h
  · obtain ⟨n,p,h1,h2⟩ := PR.and_eq_ok h
    cases h2
    have := pNum_le hq h1
    exact ⟨by omega,this.2⟩
  split at h
  · obtain ⟨n,p,h1,h2⟩ := PR.and_eq_ok h
    obtain ⟨_,p2,h3,h4⟩ := PR.and_eq_ok h2
    obtain ⟨l,p3,h5,h6⟩ := PR.and_eq_ok h4
    cases h6
    have a1 := pNum_le hq h1
    have a2 := pSign_le (pMust_ok h3)
    have a3 := hO _ _ _ a2.2.1 h5
    exact ⟨by omega,a3.2⟩
  split at h
  · obtain ⟨n,p,h1,h2⟩ := PR.and_eq_ok h
    obtain ⟨_,p2,h3,h4⟩ := PR.and_eq_ok h2
    obtain ⟨i,p3,h5,h6⟩ := PR.and_eq_ok h4
    obtain ⟨_,p4,h7,h8⟩ := PR.and_eq_ok h6
    obtain ⟨l,p5,h9,h10⟩ := PR.and_eq_ok h8
    cases h10
    have a1 := pNum_le hq h1
    have a2 := pSign_le (pMust_ok h3)
    have a3 := pKind_le a2.2.1 h5
    have a4 := pSign_le (pMust_ok h7)
    have a5 := hO _ _ _ a4.2.1 h9
    exact ⟨by omega,a5.2⟩
  split at h
  · obtain ⟨l,p,h1,h2⟩ := PR.and_eq_ok h
    cases h2
    have a1 := hM _ _ _ hq h1
    exact ⟨by omega,a1.2⟩
  split at h
  · split at h
    · cases h
      exact ⟨Nat.le_refl _,hq,hb⟩
    · obtain ⟨l,p,h1,h2⟩ := PR.and_eq_ok h
      cases h2
      have a1 := hM _ _ _ hq h1
      exact ⟨by omega,a1.2⟩
  · obtain ⟨l,p,h1,h2⟩ := PR.and_eq_ok h
    cases h2
    have a1 := hO _ _ _ hq h1
    exact ⟨by omega,a1.2⟩
theorem pTyped_goes {s : List UInt8} {F : Nat → PR Fz} (hF : Goes s F) : Goes s (pTyped s F) := by
  intro q r t hq h
  obtain ⟨k,p,h1,h2⟩ := PR.and_eq_ok h
  have a1 := pKind_le hq h1
  split at h2
  · cases h2; exact a1
  · obtain ⟨_,p2,h3,h4⟩ := PR.and_eq_ok h2
    obtain ⟨t2,p3,h5,h6⟩ := PR.and_eq_ok h4
    obtain ⟨_,p4,h7,h8⟩ := PR.and_eq_ok h6
    cases h8
    have a2 := pSign_le (pMust_ok h3)
    have a3 := pInner_goes hF a2.2.1 a2.2.2 h5
    have a4 := pSign_le (pMust_ok h7)
    exact ⟨by omega,a4.2⟩
theorem pField_goes (s : List UInt8) : ∀ d,Goes s (pField s d)
  | 0,q,r,x,hq,h => by cases h
  | d + 1,q,r,x,hq,h => by
    rw [pField] at h
    obtain ⟨nm,p,h1,h2⟩ := PR.and_eq_ok h
    obtain ⟨t,p2,h3,h4⟩ := PR.and_eq_ok h2
    have a1 := pWord_le hq h1
    have a2 := pTyped_goes (pField_goes s d) _ _ _ a1.2.1 h3
    split at h4
    · rename_i r2 h5
      cases h4
      have a3 := pSign_le h5
      exact ⟨by omega,a3.2⟩
    · cases h4
      exact ⟨by omega,a2.2⟩
/-! The kinds' words. -/
theorem word_dec0 : ∀ k : Nat,k < 21 → 0 < k → kindW (saysWord k) = k := by decide +kernel
theorem kindW_of {k : Nat} {w : List UInt8} (h0 : 0 < k) (h1 : k < 21) (hw : saysWord k = w) : kindW w = k := by
  subst hw
  exact word_dec0 k h1 h0
theorem kindW_word {w : List UInt8} (h : kindW w ≠ 0) : 0 < kindW w ∧ kindW w < 21 ∧ saysWord (kindW w) = w := by
  unfold kindW at h ⊢
  cases hf : ((List.range 21).drop 1).find? (fun k => saysWord k == w) with
  | none => rw [hf] at h; exact absurd rfl h
  | some k =>
    have h1 := List.find?_some hf
    have h2 := List.mem_of_find?_eq_some hf
    rw [Option.getD_some]
    have h3 : 0 < k ∧ k < 21 := by
      have : ∀ x ∈ (List.range 21).drop 1,0 < x ∧ x < 21 := by decide
      exact this k h2
    exact ⟨h3.1,h3.2,by simpa using h1⟩
end Go.Proofs.YtdmdgkpjjpijdaaGreatDoor
