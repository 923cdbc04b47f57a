/- YtdmdgkpjjpijdaaGreatDoor: plain: the places of fields' names: each way that is told of a schema leads to one. -/
import Derived.Test.YtdmdgkpjjpijdaaGreatDoorW150
import Derived.Test.YtdmdgkpjjpijdaaGreatDoorW7
import Derived.Test.YtdmdgkpjjpijdaaGreatDoorW166
namespace Go.Proofs.YtdmdgkpjjpijdaaGreatDoor
open Go Go.K
set_option maxRecDepth 100000
set_option linter.unusedVariables false
set_option linter.unusedSimpArgs false
mutual
def Like : Fld → Sp → Prop
  | .mk _ _ _ _ _ _ sub,.mk _ kids => LikeL sub kids
def LikeL : List Fld → List Sp → Prop
  | [],[] => True
  | f :: l,s :: k => Like f s ∧ LikeL l k
  | [],_ :: _ => False
  | _ :: _,[] => False
end
theorem Like_iff (f : Fld) (s : Sp) : Like f s ↔ LikeL f.sub s.kids := by cases f; cases s; rw [Like]; rfl
theorem LikeL.get : ∀ {l : List Fld} {k : List Sp} {i : Nat} {f : Fld},LikeL l k → l[i]? = some f → ∃ s,k[i]? = some s ∧ Like f s
  | [],k,i,f,h,hi => by simp at hi
  | g :: l,[],i,f,h,hi => by rw [LikeL] at h; exact h.elim
  | g :: l,s :: k,0,f,h,hi => by
    rw [LikeL] at h
    simp only [List.getElem?_cons_zero,Option.some.injEq] at hi
    subst hi
    exact ⟨s,rfl,h.1⟩
  | g :: l,s :: k,i + 1,f,h,hi => by
    rw [LikeL] at h
    simp only [List.getElem?_cons_succ] at hi ⊢
    exact LikeL.get h.2 hi
theorem likeL_map : ∀ {xs : List Fz},(∀ x ∈ xs,Like x.1 x.2) → LikeL (xs.map (·.1)) (xs.map (·.2))
  | [],_ => by rw [List.map_nil,List.map_nil,LikeL]; trivial
  | x :: xs,h => by
    rw [List.map_cons,List.map_cons,LikeL]
    exact ⟨h x (.head _),likeL_map fun y hy => h y (.tail _ hy)⟩
def AllLike (F : Nat → PR Fz) : Prop := ∀ q r x,F q = .ok x r → Like x.1 x.2
theorem one_like {F : Nat → PR Fz} (hF : AllLike F) {q r : Nat} {xs : List Fz} (h : one F q = .ok xs r) : ∀ x ∈ xs,Like x.1 x.2 := by
  obtain ⟨y,p,h1,h2⟩ := PR.and_eq_ok h
  cases h2
  intro x hx
  rw [List.mem_singleton.1 hx]
  exact hF _ _ _ h1
theorem pMany_like {s : List UInt8} {F : Nat → PR Fz} (hF : AllLike F) : ∀ (m q r : Nat) (xs : List Fz),pMany s F m q = .ok xs r → ∀ x ∈ xs,Like x.1 x.2
  | 0,q,r,xs,h => by cases h
  | m + 1,q,r,xs,h => by
    rw [pMany] at h
    obtain ⟨y,p,h1,h2⟩ := PR.and_eq_ok h
    split at h2
    · cases h2
      intro x hx
      rw [List.mem_singleton.1 hx]
      exact hF _ _ _ h1
    · obtain ⟨l,r3,h5,h6⟩ := PR.and_eq_ok h2
      cases h6
      intro x hx
      rcases List.mem_cons.1 hx with rfl | hx
      · exact hF _ _ _ h1
      · exact pMany_like hF m _ _ _ h5 x hx
theorem pInner_like {s : List UInt8} {F : Nat → PR Fz} (hF : AllLike F) {k q r : Nat} {t : Ty} (h : pInner s F k q = .ok t r) : ∀ x ∈ t.l,Like x.1 x.2 := by
  have hno : ∀ x ∈ ([] : List Fz),Like x.1 x.2 := fun x hx => by cases hx
  unfold pInner at h
  split at h
  · obtain ⟨n,p,h1,h2⟩ := PR.and_eq_ok h
    cases h2; exact hno
  split at h
  · obtain ⟨n,p,h1,h2⟩ := PR.and_eq_ok h
    obtain ⟨_,p2,h3,h4⟩ := PR.and_eq_ok h2
    obtain ⟨l,p3,h5,h6⟩ := PR.and_eq_ok h4
    cases h6; exact one_like hF h5
  split at h
  · obtain ⟨n,p,h1,h2⟩ := PR.and_eq_ok h
    obtain ⟨_,p2,h3,h4⟩ := PR.and_eq_ok h2
    obtain ⟨i,p3,h5,h6⟩ := PR.and_eq_ok h4
    obtain ⟨_,p4,h7,h8⟩ := PR.and_eq_ok h6
    obtain ⟨l,p5,h9,h10⟩ := PR.and_eq_ok h8
    cases h10; exact one_like hF h9
  split at h
  · obtain ⟨l,p,h1,h2⟩ := PR.and_eq_ok h
    cases h2; exact pMany_like hF _ _ _ _ h1
  split at h
  · split at h
    · cases h; exact hno
    · obtain ⟨l,p,h1,h2⟩ := PR.and_eq_ok h
      cases h2; exact pMany_like hF _ _ _ _ h1
  · obtain ⟨l,p,h1,h2⟩ := PR.and_eq_ok h
    cases h2; exact one_like hF h1
theorem pField_like (s : List UInt8) : ∀ d,AllLike (pField s d)
  | 0,q,r,x,h => by cases h
  | d + 1,q,r,x,h => by
    rw [pField] at h
    obtain ⟨nm,p,h1,h2⟩ := PR.and_eq_ok h
    obtain ⟨t,p2,h3,h4⟩ := PR.and_eq_ok h2
    have ht : ∀ x ∈ t.l,Like x.1 x.2 := by
      obtain ⟨k,p3,g1,g2⟩ := PR.and_eq_ok h3
      split at g2
      · cases g2; intro x hx; cases hx
      · obtain ⟨_,p4,g3,g4⟩ := PR.and_eq_ok g2
        obtain ⟨t2,p5,g5,g6⟩ := PR.and_eq_ok g4
        obtain ⟨_,p6,g7,g8⟩ := PR.and_eq_ok g6
        cases g8
        exact pInner_like (pField_like s d) g5
    have hk : ∀ nl,Like (mkF nm nl t q).1 (mkF nm nl t q).2 := fun nl => (Like_iff _ _).2 (likeL_map ht)
    split at h4
    · cases h4; exact hk true
    · cases h4; exact hk false
def foundP : List Sp → List Nat → Nat → Nat
  | _,[],a => a
  | l,i :: p,_ => match l[i]? with
    | some s => foundP s.kids p s.at_
    | none => 0
def okW : List Sp → List Nat → Prop
  | _,[] => True
  | l,i :: p => ∃ s,l[i]? = some s ∧ okW s.kids p
theorem nd_way : ∀ (d : Nat) (path : List Nat) (ind : Bool) (l : List Fld) (k : List Sp),LikeL l k → ∀ x ∈ nd d path ind l,∃ p,x.path = path ++ p ∧ okW k p
  | 0,path,ind,l,k,hl,x,hx => by simp [nd] at hx
  | d + 1,path,ind,l,k,hl,x,hx => by
    rw [nd] at hx
    obtain ⟨⟨f,i⟩,hp,hx⟩ := List.mem_flatMap.1 hx
    have hf : l[i]? = some f := by simpa using List.mk_mem_zipIdx_iff_getElem?.1 hp
    obtain ⟨s,hs,hls⟩ := hl.get hf
    rcases List.mem_cons.1 hx with rfl | hx
    · exact ⟨[i],rfl,s,hs,trivial⟩
    · obtain ⟨p,e,hp2⟩ := nd_way d (path ++ [i]) _ f.sub s.kids ((Like_iff _ _).1 hls) x hx
      exact ⟨i :: p,by rw [e]; simp,s,hs,hp2⟩
theorem check_way {l : List Fld} {nt : List NoteT} {k : List Sp} (h : LikeL l k) : okW k (checkP l nt).2.1 := by
  unfold checkP
  split
  · trivial
  split
  · trivial
  split
  · trivial
  · show okW k (faultN (nd 65 [] false l)).2
    unfold faultN
    cases firstWrong (nd 65 [] false l) with
    | none => trivial
    | some j =>
      cases hj : (nd 65 [] false l)[j]? with
      | none => simp [pathAt,hj,okW]
      | some x =>
        obtain ⟨p,e,hp⟩ := nd_way 65 [] false l k h x (List.mem_of_getElem? hj)
        simp only [List.nil_append] at e
        simp [pathAt,hj,e,hp]
end Go.Proofs.YtdmdgkpjjpijdaaGreatDoor
namespace Go.Proofs.YtdmdgkpjjpijdaaGreatDoor
open Go Go.K
set_option maxRecDepth 100000
set_option linter.unusedVariables false
set_option linter.unusedSimpArgs false
mutual
def preP : Sp → List Nat
  | .mk a kids => a :: preL kids
def preL : List Sp → List Nat
  | [] => []
  | s :: l => preP s ++ preL l
end
theorem preP_eq (s : Sp) : preP s = s.at_ :: preL s.kids := by cases s; rw [preP]; rfl
theorem preL_append : ∀ a b : List Sp,preL (a ++ b) = preL a ++ preL b
  | [],b => by rw [preL]; rfl
  | s :: a,b => by rw [List.cons_append,preL,preL,preL_append a b,List.append_assoc]
mutual
def cF : Fld → Nat
  | .mk _ _ _ _ _ _ sub => 1 + cL sub
def cL : List Fld → Nat
  | [] => 0
  | f :: l => cF f + cL l
end
theorem cF_eq (f : Fld) : cF f = 1 + cL f.sub := by cases f; rw [cF]; rfl
mutual
theorem pre_lenF : ∀ (f : Fld) (s : Sp),Like f s → (preP s).length = cF f
  | .mk _ _ _ _ _ _ sub,.mk a kids,h => by
    rw [Like] at h
    rw [preP,cF,List.length_cons,pre_lenL sub kids h]
    omega
theorem pre_lenL : ∀ (l : List Fld) (k : List Sp),LikeL l k → (preL k).length = cL l
  | [],[],_ => by rw [preL,cL]; rfl
  | f :: l,s :: k,h => by
    rw [LikeL] at h
    rw [preL,cL,List.length_append,pre_lenF f s h.1,pre_lenL l k h.2]
  | [],_ :: _,h => by rw [LikeL] at h; exact h.elim
  | _ :: _,[],h => by rw [LikeL] at h; exact h.elim
end
theorem LikeL.take : ∀ {l : List Fld} {k : List Sp} (n : Nat),LikeL l k → LikeL (l.take n) (k.take n)
  | l,k,0,h => by rw [List.take_zero,List.take_zero,LikeL]; trivial
  | [],[],n + 1,h => by rw [List.take_nil,List.take_nil,LikeL]; trivial
  | f :: l,s :: k,n + 1,h => by
    rw [LikeL] at h
    rw [List.take_succ_cons,List.take_succ_cons,LikeL]
    exact ⟨h.1,LikeL.take n h.2⟩
  | [],_ :: _,n + 1,h => by rw [LikeL] at h; exact h.elim
  | _ :: _,[],n + 1,h => by rw [LikeL] at h; exact h.elim
def placeK : List Fld → List Nat → Nat
  | _,[] => 0
  | l,[n] => cL (l.take n)
  | l,n :: m :: p => cL (l.take n) + (1 + placeK ((l[n]?.map Fld.sub).getD []) (m :: p))
theorem place_found : ∀ (path : List Nat) (l : List Fld) (k : List Sp) (a : Nat),LikeL l k → okW k path → path ≠ [] → (preL k)[placeK l path]? = some (foundP k path a)
  | [],l,k,a,h,hw,h0 => absurd rfl h0
  | [n],l,k,a,h,hw,h0 => by
    obtain ⟨s,hs,_⟩ := hw
    obtain ⟨q1,rfl⟩ := List.getElem?_eq_some_iff.1 hs
    have e : preL k = preL (k.take n) ++ (preP k[n] ++ preL (k.drop (n + 1))) := by
      rw [← preL,← preL_append,← List.drop_eq_getElem_cons q1,List.take_append_drop]
    rw [placeK,foundP,hs]
    simp only [foundP]
    rw [e,List.getElem?_append_right (by rw [pre_lenL _ _ (h.take n)]; exact Nat.le_refl _),pre_lenL _ _ (h.take n),Nat.sub_self,preP_eq]
    rfl
  | n :: m :: p,l,k,a,h,hw,h0 => by
    obtain ⟨s,hs,hw2⟩ := hw
    obtain ⟨f,hf,hfs⟩ : ∃ f,l[n]? = some f ∧ Like f s := by
      have hl : ∀ {l : List Fld} {k : List Sp} {n : Nat} {s : Sp},LikeL l k → k[n]? = some s → ∃ f,l[n]? = some f ∧ Like f s := by
        intro l
        induction l with
        | nil =>
          intro k n s h hs
          cases k with
          | nil => simp at hs
          | cons x k => rw [LikeL] at h; exact h.elim
        | cons g l ih =>
          intro k n s h hs
          cases k with
          | nil => simp at hs
          | cons x k =>
            rw [LikeL] at h
            cases n with
            | zero =>
              simp only [List.getElem?_cons_zero,Option.some.injEq] at hs
              subst hs
              exact ⟨g,rfl,h.1⟩
            | succ n =>
              simp only [List.getElem?_cons_succ] at hs ⊢
              exact ih h.2 hs
      exact hl h hs
    have ih := place_found (m :: p) f.sub s.kids s.at_ ((Like_iff _ _).1 hfs) hw2 (by simp)
    obtain ⟨q1,rfl⟩ := List.getElem?_eq_some_iff.1 hs
    have e : preL k = preL (k.take n) ++ (preP k[n] ++ preL (k.drop (n + 1))) := by
      rw [← preL,← preL_append,← List.drop_eq_getElem_cons q1,List.take_append_drop]
    rw [placeK,foundP,hs,hf]
    simp only [Option.map_some,Option.getD_some]
    rw [e,List.getElem?_append_right (by rw [pre_lenL _ _ (h.take n)]; omega),pre_lenL _ _ (h.take n),Nat.add_sub_cancel_left,preP_eq,List.cons_append,Nat.add_comm 1,List.getElem?_cons_succ]
    have hlt := (List.getElem?_eq_some_iff.1 ih).1
    rw [List.getElem?_append_left hlt]
    exact ih
end Go.Proofs.YtdmdgkpjjpijdaaGreatDoor
namespace Go.Proofs.YtdmdgkpjjpijdaaGreatDoor
open Go Go.K
set_option maxRecDepth 100000
set_option linter.unusedVariables false
set_option linter.unusedSimpArgs false
set_option maxHeartbeats 4000000
def FieldV (x : Fz) (v : Value) (K : Own) : Prop := ∃ (a : Option Addr) (c : Nat) (a2 : Option Addr) (c2 : Nat) (K1 K2 : Own),v = .tuple #[.agg (x.1.cells a c).toArray,.agg #[i64 x.2.at_,.slice a2 x.2.kids.length c2]] ∧ K = K1 ++ K2 ∧ OwF x.1 K1 a c ∧ OwP x.2 K2 a2 c2
def ListV (xs : List Fz) (v : Value) (K : Own) : Prop := ∃ (a : Option Addr) (c : Nat) (a2 : Option Addr) (c2 : Nat) (K1 K2 : Own),v = .tuple #[.slice a xs.length c,.slice a2 xs.length c2] ∧ K = K1 ++ K2 ∧ OwS (xs.map (·.1)) K1 a c ∧ OwPS (xs.map (·.2)) K2 a2 c2
def TypeV (t : Ty) (v : Value) (K : Own) : Prop := ∃ (a : Option Addr) (c : Nat) (a2 : Option Addr) (c2 : Nat) (K1 K2 : Own),v = .tuple #[.agg #[i64 t.k,i64 t.wd,i64 t.id,i64 t.ix,.slice a t.l.length c],.slice a2 t.l.length c2] ∧ K = K1 ++ K2 ∧ OwS (t.l.map (·.1)) K1 a c ∧ OwPS (t.l.map (·.2)) K2 a2 c2
structure RdQ (wb w : World) (rb : Nat) (s : List UInt8) (p : Nat) (M : Own) : Prop where
  hs : s.length ≤ 65536
  says : SaysAt wb
  lib : LibAt wb
  hp : p ≤ s.length
  hrb : wb.heap.size ≤ rb
  hM : ∀ b ∈ M,wb.heap.size ≤ b.1
  hw : Sy wb (oRd rb s p :: M) w
def FieldOK (d : Nat) : Prop := ∀ (wb w : World) (rb : Nat) (s : List UInt8) (p : Nat) (M : Own),RdQ wb w rb s p M → s.length - blP s p < d →
  Calls Tryz.prog 48 #[.pointer (some ⟨rb,0,none⟩)] w (PRet wb rb s M (pField s d (blP s p)) fun x _ v K => FieldV x v K)
def OneOK (d : Nat) : Prop := ∀ (wb w : World) (rb : Nat) (s : List UInt8) (p : Nat) (M : Own),RdQ wb w rb s p M → s.length - blP s p < d →
  Calls Tryz.prog 111 #[.pointer (some ⟨rb,0,none⟩)] w (PRet wb rb s M (one (pField s d) (blP s p)) fun x _ v K => ListV x v K)
def ManyOK (d : Nat) : Prop := ∀ (wb w : World) (rb : Nat) (s : List UInt8) (p : Nat) (M : Own),RdQ wb w rb s p M → s.length - blP s p < d →
  Calls Tryz.prog 36 #[.pointer (some ⟨rb,0,none⟩)] w (PRet wb rb s M (pMany s (pField s d) (s.length + 1) (blP s p)) fun x _ v K => ListV x v K)
def TypeOK (d : Nat) : Prop := ∀ (wb w : World) (rb : Nat) (s : List UInt8) (p : Nat) (M : Own),RdQ wb w rb s p M → s.length - blP s p < d →
  Calls Tryz.prog 78 #[.pointer (some ⟨rb,0,none⟩)] w (PRet wb rb s M (pTyped s (pField s d) (blP s p)) fun x _ v K => TypeV x v K)
theorem infoSpot : (Tryz.prog.info? 93).map (fun i => (i.zero,i.size,i.bytes)) = some (some (.agg #[i64 0,.slice none 0 0]),2,32) := by kernel_rfl
abbrev oSp (b : Nat) (n : Int) (a : Option Addr) (k c : Nat) : Nat × Obj := (b,Obj.cells #[i64 n,.slice a k c] 93 (0,0))
abbrev oFi (b : Nat) (f : Fld) (a : Option Addr) (c : Nat) : Nat × Obj := (b,Obj.cells #[str f.nm,.bool f.nl,i64 f.k,i64 f.wd,i64 f.id,i64 f.ix,.slice a f.sub.length c] 37 (0,0))
theorem own_one {f : Fld} {K : Own} {a : Option Addr} {c b : Nat} (h : OwF f K a c) : OwS [f] (oFi b f a c :: K) (some ⟨b,0,none⟩) 1 :=
  (OwS_iff _ _ _ _).2 (.inr ⟨b,1,f.cells a c,f.cells a c,K,rfl,rfl,Nat.le_refl _,Nat.le_refl _,.inl rfl,by omega,rfl,rfl,OwK.single h⟩)
theorem ownP_one {x : Sp} {K : Own} {a : Option Addr} {c b : Nat} (h : OwP x K a c) : OwPS [x] (oSp b x.at_ a x.kids.length c :: K) (some ⟨b,0,none⟩) 1 :=
  (OwPS_iff _ _ _ _).2 (.inr ⟨b,[i64 x.at_,.slice a x.kids.length c],K,rfl,rfl,Nat.le_refl _,by decide,OwPK.single h⟩)
def OnI (w0 : World) (fv sv : Value) (fo so : Nat → Nat × Obj) (base : Own) (D : Nat → Bool) (e : Env) (ds : List Deferred) (L : Own) : Prop :=
  ds = [] ∧ e 11 = fv ∧ e 13 = sv ∧ (D 4 = true → D 1 = true) ∧ (D 5 = true → D 3 = true) ∧ ∃ bx bz : Nat,(D 1 = true → w0.heap.size ≤ bx) ∧ (D 3 = true → w0.heap.size ≤ bz) ∧ (D 1 = true → e 12 = .slice (some ⟨bx,0,none⟩) 1 1) ∧ (D 3 = true → e 14 = .slice (some ⟨bz,0,none⟩) 1 1) ∧ (D 4 = true → e 2 = .slice (some ⟨bx,0,none⟩) 1 1) ∧ (D 5 = true → e 3 = .slice (some ⟨bz,0,none⟩) 1 1) ∧
    L = (if D 1 = true then [fo bx] else []) ++ ((if D 3 = true then [so bz] else []) ++ base)
theorem one_step (d : Nat) (hF : FieldOK d) : OneOK d := by
  intro wb w rb s p M hQ hd
  refine enterB (args := [.pointer (some ⟨rb,0,none⟩)]) Tryz.func111 rfl Tryz.ntmps111 (congrArg Array.toList Tryz.results111) (by kernel_rfl) (by simp) hQ.hw ?_
  simp (disch:=omega) only[push_cast,Nat.reduceEqDiff]
  refine callV en_48 (callX_pr (fun w' hw' => hF wb w' rb s p M ⟨hQ.hs,hQ.says,hQ.lib,hQ.hp,hQ.hrb,hQ.hM,hw'⟩ hd) (fun x q v p' K hr hq hp' hS hK => ?_) (fun q K hr hK => ?_))
  rotate_left
  · simp (disch:=omega) only[push_cast,Nat.reduceEqDiff]
    exact fun w' hw' => PRet.fall K (by rw [one,hr,PR.and_no]) hK hw'
  (refine Exists.elim (hS) (fun a hz => Exists.elim hz (fun c hz => Exists.elim hz (fun a2 hz => Exists.elim hz (fun c2 hz => Exists.elim hz (fun K1 hz => Exists.elim hz (fun K2 hz => ?_)))))); have ez := hz.1; subst ez; have ez := hz.2.1; subst ez; have hO1 := hz.2.2.1; have hO2 := hz.2.2.2; clear hz)
  simp (disch:=omega) only[push_cast,Nat.reduceEqDiff,Fld.cells]
  refine newI (fun b4 hb4 hn4 => ?_)
  simp (disch:=omega) only[push_cast,Nat.reduceEqDiff]
  refine newI (fun b5 hb5 hn5 => ?_)
  simp (disch:=omega) only[push_cast,Nat.reduceEqDiff]
  refine storeX 1 rfl Siz.eq rfl rfl (by simp [Value.oneCell']) (by simp) ?_
  simp (disch:=omega) only[push_cast,Nat.reduceEqDiff]
  refine storeX 0 rfl Siz.eq rfl rfl (by simp [Value.oneCell']) (by simp) ?_
  simp (disch:=omega) only[push_cast,Nat.reduceEqDiff]
  have hnewL : ∀ (o4 o5 : Obj),∀ b ∈ (b5,o5) :: (b4,o4) :: oRd rb s p' :: ((K1 ++ K2) ++ M),wb.heap.size ≤ b.1 := fun o4 o5 b hb => by
    simp only [List.mem_cons] at hb
    rcases hb with rfl | rfl | rfl | hb
    · exact hb5
    · exact hb4
    · exact hQ.hrb
    · rcases List.mem_append.1 hb with hb | hb
      · exact hK b hb
      · exact hQ.hM b hb
  refine freeIT [0,2] [1,3,4,5] [(1,[]),(3,[]),(4,[1]),(5,[3])] [oSp b5 x.2.at_ a2 x.2.kids.length c2,oFi b4 x.1 a c]
    (OnI wb (.agg #[str x.1.nm,.bool x.1.nl,i64 x.1.k,i64 x.1.wd,i64 x.1.id,i64 x.1.ix,.slice a x.1.sub.length c]) (.agg #[i64 x.2.at_,.slice a2 x.2.kids.length c2]) (fun b => oFi b x.1 a c) (fun b => oSp b x.2.at_ a2 x.2.kids.length c2) (oSp b5 x.2.at_ a2 x.2.kids.length c2 :: oFi b4 x.1 a c :: oRd rb s p' :: ((K1 ++ K2) ++ M)))
    (by kernel_rfl) mixed (by kernel_rfl) (by kernel_rfl) (fun D e ds L hI => ?_) ?_ ?_ (Stab.of (.cons_cons _ (.cons_cons _ (List.nil_sublist _))) (hnewL _ _)) ?_
  · obtain ⟨_,_,_,_,_,bx,bz,g1,g2,_,_,_,_,rfl⟩ := hI
    refine Stab.of ?_ (fun b hb => ?_)
    · refine List.Sublist.trans ?_ (List.sublist_append_right _ _)
      refine List.Sublist.trans ?_ (List.sublist_append_right _ _)
      exact .cons_cons _ (.cons_cons _ (List.nil_sublist _))
    · rcases List.mem_append.1 hb with hb | hb
      · split at hb
        · rename_i h; rw [List.mem_singleton.1 hb]; exact g1 h
        · cases hb
      rcases List.mem_append.1 hb with hb | hb
      · split at hb
        · rename_i h; rw [List.mem_singleton.1 hb]; exact g2 h
        · cases hb
      · exact hnewL _ _ b hb
  · intro p hp D e ds L hD hdep hI
    obtain ⟨rfl,h11,h13,d4,d5,bx,bz,g1,g2,e12,e14,e2,e3,rfl⟩ := hI
    simp only [List.mem_cons,List.mem_nil_iff,or_false] at hp
    rcases hp with rfl | rfl | rfl | rfl
    all_goals simp only [List.mem_cons,List.mem_nil_iff,or_false,forall_eq_or_imp,forall_eq,false_implies,implies_true] at hD hdep
    · have n4 : D 4 = false := by cases h : D 4 with
        | false => rfl
        | true => rw [d4 h] at hD; cases hD
      simp (disch:=omega) only[push_cast,Nat.reduceEqDiff,h11,h13]
      refine bs_24_1 (newI fun b hb hn => ?_)
      simp (disch:=omega) only[push_cast,Nat.reduceEqDiff,h11,h13]
      refine ⟨_,fun w hw => hw,rfl,(by simpa [upd] using h11),(by simpa [upd] using h13),(by simp [n4]),(by simpa using d5),b,bz,(fun _ => hb),(by simpa using g2),(fun _ => by simp [upd]),(by simpa [upd] using e14),(by simp [n4]),(by simpa [upd] using e3),?_⟩
      simp [hD]
    · have n5 : D 5 = false := by cases h : D 5 with
        | false => rfl
        | true => rw [d5 h] at hD; cases hD
      simp (disch:=omega) only[push_cast,Nat.reduceEqDiff,h11,h13]
      refine bs_74_1 (newI fun b hb hn => ?_)
      simp (disch:=omega) only[push_cast,Nat.reduceEqDiff,h11,h13]
      refine ⟨(if D 1 = true then [oFi bx x.1 a c] else []) ++ ([oSp b x.2.at_ a2 x.2.kids.length c2] ++ (oSp b5 x.2.at_ a2 x.2.kids.length c2 :: oFi b4 x.1 a c :: oRd rb s p' :: ((K1 ++ K2) ++ M))),fun w hw => ?_,rfl,(by simpa [upd] using h11),(by simpa [upd] using h13),(by simpa using d4),(by simp [n5]),bx,b,(by simpa using g1),(fun _ => hb),(by simpa [upd] using e12),(fun _ => by simp [upd]),(by simpa [upd] using e2),(by simp [n5]),?_⟩
      · rw [hD] at hw
        refine hw.perm (?_ : List.Perm (oSp b x.2.at_ a2 x.2.kids.length c2 :: _) _)
        exact permC fun f => by simp only [wt_append,wt_cons,wt_nil,Bool.false_eq_true,if_false]; omega
      · simp
    · have h12 := e12 hdep
      simp (disch:=omega) only[push_cast,Nat.reduceEqDiff,h12]
      exact ⟨_,fun w hw => hw,rfl,(by simpa [upd] using h11),(by simpa [upd] using h13),(fun _ => by simp [hdep]),(by simpa using d5),bx,bz,(by simpa using g1),(by simpa using g2),(by simpa [upd] using e12),(by simpa [upd] using e14),(fun _ => by simp [upd]),(by simpa [upd] using e3),by simp⟩
    · have h14 := e14 hdep
      simp (disch:=omega) only[push_cast,Nat.reduceEqDiff,h14]
      exact ⟨_,fun w hw => hw,rfl,(by simpa [upd] using h11),(by simpa [upd] using h13),(by simpa using d4),(fun _ => by simp [hdep]),bx,bz,(by simpa using g1),(by simpa using g2),(by simpa [upd] using e12),(by simpa [upd] using e14),(by simpa [upd] using e2),(fun _ => by simp [upd]),by simp⟩
  · intro D e ds L hD hI
    obtain ⟨rfl,h11,h13,d4,d5,bx,bz,g1,g2,e12,e14,e2,e3,rfl⟩ := hI
    have k1 := hD 1 (by simp)
    have k3 := hD 3 (by simp)
    have h2 := e2 (hD 4 (by simp))
    have h3 := e3 (hD 5 (by simp))
    rw [k1,k3]
    simp (disch:=omega) only[push_cast,Nat.reduceEqDiff,h2,h3]
    refine fun w' hw' => PRet.leaf _ p' ((oFi bx x.1 a c :: K1) ++ (oSp bz x.2.at_ a2 x.2.kids.length c2 :: K2)) (x := [x]) (q := q) (by rw [one,hr,PR.and_ok]) hq hp' ⟨some ⟨bx,0,none⟩,1,some ⟨bz,0,none⟩,1,oFi bx x.1 a c :: K1,oSp bz x.2.at_ a2 x.2.kids.length c2 :: K2,rfl,rfl,own_one hO1,ownP_one hO2⟩ (fun b hb => ?_) ?_
    · rcases List.mem_append.1 hb with hb | hb
      · rcases List.mem_cons.1 hb with rfl | hb
        · exact g1 k1
        · exact hK b (List.mem_append_left _ hb)
      · rcases List.mem_cons.1 hb with rfl | hb
        · exact g2 k3
        · exact hK b (List.mem_append_right _ hb)
    · refine Sy.left (A := [oSp b5 x.2.at_ a2 x.2.kids.length c2,oFi b4 x.1 a c]) (hw'.perm (?_ : List.Perm (oFi bx x.1 a c :: oSp bz x.2.at_ a2 x.2.kids.length c2 :: oSp b5 x.2.at_ a2 x.2.kids.length c2 :: oFi b4 x.1 a c :: oRd rb s p' :: ((K1 ++ K2) ++ M)) _)) (fun b hb => ?_)
      · exact permC fun f => by simp only [wt_append,wt_cons,wt_nil]; omega
      · simp only [List.mem_cons,List.mem_nil_iff,or_false] at hb
        rcases hb with rfl | rfl
        · exact hb5
        · exact hb4
  · simp (disch:=omega) only[push_cast,Nat.reduceEqDiff]
    refine loadX_agg Shp.eq mem1 rfl rfl ?_
    simp (disch:=omega) only[push_cast,Nat.reduceEqDiff]
    refine loadX_agg Shp.eq mem0 rfl rfl ?_
    simp (disch:=omega) only[push_cast,Nat.reduceEqDiff]
    exact ⟨rfl,rfl,rfl,(by simp),(by simp),0,0,(by simp),(by simp),(by simp),(by simp),(by simp),(by simp),by simp⟩
end Go.Proofs.YtdmdgkpjjpijdaaGreatDoor
