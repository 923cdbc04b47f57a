/- YtdmdgkpjjpijdaaGreatDoor: plain law: two lists of fields that may be are alike just where their fields in order, each without what lies within it, are the same. -/
import Derived.Test.YtdmdgkpjjpijdaaGreatDoorW10
import Derived.Test.YtdmdgkpjjpijdaaGreatDoorKo
import Derived.Test.YtdmdgkpjjpijdaaGreatDoorKs
namespace Go.Proofs.YtdmdgkpjjpijdaaGreatDoor
open Go Go.K
set_option linter.unusedVariables false
set_option linter.unusedSimpArgs false
end Go.Proofs.YtdmdgkpjjpijdaaGreatDoor
namespace Go.Proofs.YtdmdgkpjjpijdaaGreatDoor
open Go Go.K
set_option maxRecDepth 100000
set_option linter.unusedVariables false
set_option linter.unusedSimpArgs false
set_option maxHeartbeats 1000000
structure SnE (w : World) (b2 b3 : Nat) (f g : Fld) (a a' : Option Addr) (c c' : Nat) (wb : World) (e : Env) (ds : List Deferred) (L : Own) : Prop where
  hw : wb = w
  hds : ds = []
  h2 : e 2 = .pointer (some ⟨b2,0,none⟩)
  h3 : e 3 = .pointer (some ⟨b3,0,none⟩)
  o : ∃ b5 b6,e 5 = .pointer (some ⟨b5,0,none⟩) ∧ e 6 = .pointer (some ⟨b6,0,none⟩) ∧ w.heap.size ≤ b5 ∧ w.heap.size ≤ b6 ∧ L = [(b6,Obj.cells #[i64 g.k,i64 g.wd,i64 g.id,i64 g.ix,.slice a' g.sub.length c'] 35 (0,0)),(b5,Obj.cells #[i64 f.k,i64 f.wd,i64 f.id,i64 f.ix,.slice a f.sub.length c] 35 (0,0)),(b3,Obj.cells #[str g.nm,.bool g.nl,i64 g.k,i64 g.wd,i64 g.id,i64 g.ix,.slice a' g.sub.length c'] 37 (0,0)),(b2,Obj.cells #[str f.nm,.bool f.nl,i64 f.k,i64 f.wd,i64 f.id,i64 f.ix,.slice a f.sub.length c] 37 (0,0))]
abbrev fldV (f : Fld) (a : Option Addr) (c : Nat) : Value := .agg #[str f.nm,.bool f.nl,i64 f.k,i64 f.wd,i64 f.id,i64 f.ix,.slice a f.sub.length c]
def EqFsOK (n : Nat) : Prop := ∀ (w : World) (lo lo' : Nat) (l : List Fld) (a a' : Option Addr) (c c' : Nat),lo ≤ w.heap.size → lo' ≤ w.heap.size → Rd w lo a l → Rd w lo' a' l → l.length ≤ 9223372036854775807 → SizeOf.sizeOf l < n → Calls Tryz.prog 22 #[.slice a l.length c,.slice a' l.length c'] w (Rets w (Is (.bool true)))
def EqFOK (n : Nat) : Prop := ∀ (w : World) (lo lo' : Nat) (f : Fld) (a a' : Option Addr) (c c' : Nat),lo ≤ w.heap.size → lo' ≤ w.heap.size → Rd w lo a f.sub → Rd w lo' a' f.sub → f.sub.length ≤ 9223372036854775807 → SizeOf.sizeOf f < n → Calls Tryz.prog 11 #[fldV f a c,fldV f a' c'] w (Rets w (Is (.bool true)))
theorem eqField_step (n : Nat) (hF : EqFsOK n) : EqFOK (n + 1) := by
  intro w lo lo' f a a' c c' hlo hlo' hr hr' hl hsz
  refine enterT (args := [fldV f a c,fldV f a' c']) Tryz.func11 rfl Tryz.ntmps11 (congrArg Array.toList Tryz.results11) (by kernel_rfl) (by simp) (Sy.refl w) ?_
  simp (disch:=omega) only[push_cast,Nat.reduceEqDiff,fldV]
  refine newI (fun b2 hb2 hn2 => ?_)
  simp (disch:=omega) only[push_cast,Nat.reduceEqDiff]
  refine newI (fun b3 hb3 hn3 => ?_)
  simp (disch:=omega) only[push_cast,Nat.reduceEqDiff]
  repeat' (first | ((first | refine guardX_t rfl (fun h => ?_) (fun h => ?_) | refine guardX_f rfl (fun h => ?_) (fun h => ?_) | refine condX_d (fun h => ?_) (fun h => ?_) | (refine guardX_bt rfl (fun h => ?_) (fun h => ?_) <;> (try subst h)) | (refine guardX_bf rfl (fun h => ?_) (fun h => ?_) <;> (try subst h)) | (refine condX_b (fun h => ?_) (fun h => ?_) <;> (try subst h)) | refine ldOne Shp.eq (by (first | exact mem0 | exact mem1 | exact mem2 | exact mem3)) rfl ?_ | refine loadX_agg Shp.eq (by (first | exact mem0 | exact mem1 | exact mem2 | exact mem3)) rfl rfl ?_ | refine newI (fun b hb hn => ?_) | refine storeX 0 rfl Siz.eq rfl rfl (by simp [Value.oneCell']) (by simp) ?_ | refine storeX 1 rfl Siz.eq rfl rfl (by simp [Value.oneCell']) (by simp) ?_ | refine storeX 2 rfl Siz.eq rfl rfl (by simp [Value.oneCell']) (by simp) ?_ | refine storeX 3 rfl Siz.eq rfl rfl (by simp [Value.oneCell']) (by simp) ?_) <;> simp (disch:=omega) only[push_cast,Nat.reduceEqDiff]))
  have hL : ∀ p ∈ [(b3,Obj.cells #[str f.nm,.bool f.nl,i64 f.k,i64 f.wd,i64 f.id,i64 f.ix,.slice a' f.sub.length c'] 37 (0,0)),(b2,Obj.cells #[str f.nm,.bool f.nl,i64 f.k,i64 f.wd,i64 f.id,i64 f.ix,.slice a f.sub.length c] 37 (0,0))],w.heap.size ≤ p.1 := by
    intro p hp
    simp only [List.mem_cons,List.mem_nil_iff,or_false] at hp
    rcases hp with rfl | rfl <;> assumption
  refine cutW (SnE w b2 b3 f f a a' c c') ?_ ?_
  · refine freeTs [0,1,2,3] [4,5,6,7] [[4,5,6,7],[5,4,6,7]] [(b3,Obj.cells #[str f.nm,.bool f.nl,i64 f.k,i64 f.wd,i64 f.id,i64 f.ix,.slice a' f.sub.length c'] 37 (0,0)),(b2,Obj.cells #[str f.nm,.bool f.nl,i64 f.k,i64 f.wd,i64 f.id,i64 f.ix,.slice a f.sub.length c] 37 (0,0))] (by kernel_rfl) mixed (by kernel_rfl) (by kernel_rfl) (fun h => by cases h) (fun w hw => hw) ?_
    simp (disch:=omega) only[push_cast,Nat.reduceEqDiff]
    refine loadX_agg Shp.eq (.tail _ (.head _)) rfl rfl ?_
    simp (disch:=omega) only[push_cast,Nat.reduceEqDiff]
    refine loadX_agg Shp.eq (.head _) rfl rfl ?_
    simp (disch:=omega) only[push_cast,Nat.reduceEqDiff]
    have st1 : ∀ x : Nat × Obj,w.heap.size ≤ x.1 → Stab w (x :: [(b3,Obj.cells #[str f.nm,.bool f.nl,i64 f.k,i64 f.wd,i64 f.id,i64 f.ix,.slice a' f.sub.length c'] 37 (0,0)),(b2,Obj.cells #[str f.nm,.bool f.nl,i64 f.k,i64 f.wd,i64 f.id,i64 f.ix,.slice a f.sub.length c] 37 (0,0))]) [(b3,Obj.cells #[str f.nm,.bool f.nl,i64 f.k,i64 f.wd,i64 f.id,i64 f.ix,.slice a' f.sub.length c'] 37 (0,0)),(b2,Obj.cells #[str f.nm,.bool f.nl,i64 f.k,i64 f.wd,i64 f.id,i64 f.ix,.slice a f.sub.length c] 37 (0,0))] := fun x hx => Stab.of (.cons _ (List.Sublist.refl _)) (fun p hp => by
      rcases List.mem_cons.1 hp with rfl | hp
      · exact hx
      · exact hL p hp)
    have st2 : ∀ x y : Nat × Obj,w.heap.size ≤ x.1 → w.heap.size ≤ y.1 → Stab w (x :: y :: [(b3,Obj.cells #[str f.nm,.bool f.nl,i64 f.k,i64 f.wd,i64 f.id,i64 f.ix,.slice a' f.sub.length c'] 37 (0,0)),(b2,Obj.cells #[str f.nm,.bool f.nl,i64 f.k,i64 f.wd,i64 f.id,i64 f.ix,.slice a f.sub.length c] 37 (0,0))]) [(b3,Obj.cells #[str f.nm,.bool f.nl,i64 f.k,i64 f.wd,i64 f.id,i64 f.ix,.slice a' f.sub.length c'] 37 (0,0)),(b2,Obj.cells #[str f.nm,.bool f.nl,i64 f.k,i64 f.wd,i64 f.id,i64 f.ix,.slice a f.sub.length c] 37 (0,0))] := fun x y hx hy => Stab.of (.cons _ (.cons _ (List.Sublist.refl _))) (fun p hp => by
      rcases List.mem_cons.1 hp with rfl | hp
      · exact hx
      · rcases List.mem_cons.1 hp with rfl | hp
        · exact hy
        · exact hL p hp)
    intro t ht
    simp only [List.mem_cons,List.mem_nil_iff,or_false] at ht
    rcases ht with rfl | rfl
    · simp (disch:=omega) only[push_cast,Nat.reduceEqDiff]
      refine newI (fun b5 hb5 hn5 => ?_)
      simp (disch:=omega) only[push_cast,Nat.reduceEqDiff]
      refine ⟨st1 _ hb5,newI (fun b6 hb6 hn6 => ?_)⟩
      simp (disch:=omega) only[push_cast,Nat.reduceEqDiff]
      refine ⟨st2 _ _ hb6 hb5,storeX 1 rfl Siz.eq rfl rfl (by simp [Value.oneCell']) (by simp) ?_⟩
      simp (disch:=omega) only[push_cast,Nat.reduceEqDiff]
      refine ⟨st2 _ _ hb6 hb5,storeX 0 rfl Siz.eq rfl rfl (by simp [Value.oneCell']) (by simp) ?_⟩
      simp (disch:=omega) only[push_cast,Nat.reduceEqDiff]
      exact ⟨st2 _ _ hb6 hb5,_,fun w hw => hw,rfl,rfl,rfl,rfl,b5,b6,rfl,rfl,hb5,hb6,rfl⟩
    · simp (disch:=omega) only[push_cast,Nat.reduceEqDiff]
      refine newI (fun b6 hb6 hn6 => ?_)
      simp (disch:=omega) only[push_cast,Nat.reduceEqDiff]
      refine ⟨st1 _ hb6,newI (fun b5 hb5 hn5 => ?_)⟩
      simp (disch:=omega) only[push_cast,Nat.reduceEqDiff]
      refine ⟨st2 _ _ hb5 hb6,storeX 0 rfl Siz.eq rfl rfl (by simp [Value.oneCell']) (by simp) ?_⟩
      simp (disch:=omega) only[push_cast,Nat.reduceEqDiff]
      refine ⟨st2 _ _ hb5 hb6,storeX 1 rfl Siz.eq rfl rfl (by simp [Value.oneCell']) (by simp) ?_⟩
      simp (disch:=omega) only[push_cast,Nat.reduceEqDiff]
      exact ⟨st2 _ _ hb5 hb6,_,fun w hw => hw.perm (.swap _ _ _),rfl,rfl,rfl,rfl,b5,b6,rfl,rfl,hb5,hb6,rfl⟩
  · rintro wb e ds L ⟨rfl,rfl,e2,e3,⟨b5,b6,e5,e6,hb5,hb6,rfl⟩⟩
    have hL4 : ∀ p ∈ [(b6,Obj.cells #[i64 f.k,i64 f.wd,i64 f.id,i64 f.ix,.slice a' f.sub.length c'] 35 (0,0)),(b5,Obj.cells #[i64 f.k,i64 f.wd,i64 f.id,i64 f.ix,.slice a f.sub.length c] 35 (0,0)),(b3,Obj.cells #[str f.nm,.bool f.nl,i64 f.k,i64 f.wd,i64 f.id,i64 f.ix,.slice a' f.sub.length c'] 37 (0,0)),(b2,Obj.cells #[str f.nm,.bool f.nl,i64 f.k,i64 f.wd,i64 f.id,i64 f.ix,.slice a f.sub.length c] 37 (0,0))],wb.heap.size ≤ p.1 := by
      intro p hp
      simp only [List.mem_cons,List.mem_nil_iff,or_false] at hp
      rcases hp with rfl | rfl | rfl | rfl <;> assumption
    have hszs : SizeOf.sizeOf f.sub < n := by
      have : SizeOf.sizeOf f.sub < SizeOf.sizeOf f := by cases f; simp only [Fld.sub,Fld.mk.sizeOf_spec]; omega
      omega
    simp (disch:=omega) only[push_cast,Nat.reduceEqDiff,e2,e3,e5,e6,decide_true,beq_self_eq_true]
    repeat' (first | (refine ldOne Shp.eq (by (first | exact mem0 | exact mem1 | exact mem2 | exact mem3)) rfl ?_; simp (disch:=omega) only[push_cast,Nat.reduceEqDiff,e2,e3,e5,e6,decide_true,beq_self_eq_true]))
    refine callV en_22 (callX_is (fun w' hw' => hF w' lo lo' f.sub a a' c c' (Nat.le_trans hlo hw'.size) (Nat.le_trans hlo' hw'.size) (hr.sy hlo hw' (fun p hp => Nat.le_trans hlo (hL4 p hp))) (hr'.sy hlo' hw' (fun p hp => Nat.le_trans hlo' (hL4 p hp))) hl hszs) ?_)
    simp (disch:=omega) only[push_cast,Nat.reduceEqDiff,e2,e3,e5,e6]
    exact finIs hL4 rfl
structure EqFsI (w0 : World) (l : List Fld) (a a' : Option Addr) (c c' : Nat) (i : Nat) (wb : World) (e : Env) (ds : List Deferred) (L : Own) : Prop where
  hw : wb = w0
  hds : ds = []
  o : L = []
  il : i ≤ l.length
  h0 : e 0 = .slice a l.length c
  h1 : e 1 = .slice a' l.length c'
  h12 : e 12 = i64 l.length
  h13 : e 13 = i64 i
theorem eqFields_step (n : Nat) (hF : EqFOK n) : EqFsOK (n + 1) := by
  intro w lo lo' l a a' c c' hlo hlo' hr hr' hl hsz
  refine enterT (args := [.slice a l.length c,.slice a' l.length c']) Tryz.func22 rfl Tryz.ntmps22 (congrArg Array.toList Tryz.results22) (by kernel_rfl) (by simp) (Sy.refl w) ?_
  simp (disch:=omega) only[push_cast,Nat.reduceEqDiff,ne_eq,not_true_eq_false,decide_false]
  rw [V_cond]
  simp (disch:=omega) only[push_cast,Nat.reduceEqDiff]
  repeat' (first | ((first | refine guardX_t rfl (fun h => ?_) (fun h => ?_) | refine guardX_f rfl (fun h => ?_) (fun h => ?_) | refine condX_d (fun h => ?_) (fun h => ?_) | (refine guardX_bt rfl (fun h => ?_) (fun h => ?_) <;> (try subst h)) | (refine guardX_bf rfl (fun h => ?_) (fun h => ?_) <;> (try subst h)) | (refine condX_b (fun h => ?_) (fun h => ?_) <;> (try subst h)) | refine ldOne Shp.eq (by (first | exact mem0 | exact mem1 | exact mem2 | exact mem3)) rfl ?_ | refine loadX_agg Shp.eq (by (first | exact mem0 | exact mem1 | exact mem2 | exact mem3)) rfl rfl ?_ | refine newI (fun b hb hn => ?_) | refine storeX 0 rfl Siz.eq rfl rfl (by simp [Value.oneCell']) (by simp) ?_ | refine storeX 1 rfl Siz.eq rfl rfl (by simp [Value.oneCell']) (by simp) ?_ | refine storeX 2 rfl Siz.eq rfl rfl (by simp [Value.oneCell']) (by simp) ?_ | refine storeX 3 rfl Siz.eq rfl rfl (by simp [Value.oneCell']) (by simp) ?_) <;> simp (disch:=omega) only[push_cast,Nat.reduceEqDiff]))
  rw [V_block]
  simp (disch:=omega) only[push_cast,Nat.reduceEqDiff]
  refine loopT (G := Nat) (EqFsI w l a a' c c') (fun i => l.length - i) 0 (by kernel_rfl) ⟨rfl,rfl,rfl,by omega,rfl,rfl,rfl,rfl⟩ ?_
  rintro i wb e ds L ⟨rfl,rfl,rfl,hil,h0,h1,h12,h13⟩
  simp (disch:=omega) only[push_cast,Nat.reduceEqDiff,h0,h1,h12,h13]
  rw [V_cond]
  simp (disch:=omega) only[push_cast,Nat.reduceEqDiff,h0,h1,h12,h13]
  refine condX_d (fun hlt => ?_) (fun hge => ?_)
  · obtain ⟨f,hf⟩ : ∃ f,l[i]? = some f := ⟨_,List.getElem?_eq_getElem (by omega)⟩
    have hne : ∃ f l',l = f :: l' := List.exists_cons_of_ne_nil (by rintro rfl; simp at hf)
    obtain ⟨b,off,rfl,hb⟩ : ∃ b off,a = some ⟨b,off,none⟩ ∧ b < lo := by
      obtain ⟨f0,l0,rfl⟩ := hne
      exact hr.some_of
    obtain ⟨b',off',rfl,hb'⟩ : ∃ b off,a' = some ⟨b,off,none⟩ ∧ b < lo' := by
      obtain ⟨f0,l0,rfl⟩ := hne
      exact hr'.some_of
    have hszf : SizeOf.sizeOf f < n := by
      have := List.sizeOf_lt_of_mem (List.mem_of_getElem? hf)
      omega
    obtain ⟨fa,fc,x1,x2,x3,x4,x5,x6⟩ := hr.get i hf
    obtain ⟨fa',fc',y1,y2,y3,y4,y5,y6⟩ := hr'.get i hf
    simp (disch:=omega) only[push_cast,Nat.reduceEqDiff,h0,h1,h12,h13]
    rw [V_block]
    simp (disch:=omega) only[push_cast,Nat.reduceEqDiff,h0,h1,h12,h13]
    refine drawQT (by kernel_rfl) (by kernel_rfl) mixed (by kernel_rfl) ?_
    simp (disch:=omega) only[push_cast,Nat.reduceEqDiff,h0,h1,h12,h13]
    refine ldAggF Shp.eq x2 rfl (by simp) ?_
    simp (disch:=omega) only[push_cast,Nat.reduceEqDiff,h0,h1,h12,h13,Fld.cells]
    refine ldAggF Shp.eq y2 rfl (by simp) ?_
    simp (disch:=omega) only[push_cast,Nat.reduceEqDiff,h0,h1,h12,h13,Fld.cells]
    refine qcallV en_11 (qcallX_is _ (fun w' hw' => hF w' lo lo' f fa fa' fc fc' (Nat.le_trans hlo hw'.size) (Nat.le_trans hlo' hw'.size) (x6.sy hlo hw' (by simp)) (y6.sy hlo' hw' (by simp)) (by omega) hszf) ?_)
    simp (disch:=omega) only[push_cast,Nat.reduceEqDiff,h0,h1,h12,h13]
    rw [V_cond]
    simp (disch:=omega) only[push_cast,Nat.reduceEqDiff,h0,h1,h12,h13]
    refine condX_b (fun hm => by cases hm) (fun _ => ?_)
    simp (disch:=omega) only[push_cast,Nat.reduceEqDiff,h0,h1,h12,h13]
    exact ⟨i + 1,⟨rfl,rfl,rfl,by omega,h0,h1,h12,by simp only [upd]; rfl⟩,by omega⟩
  · simp (disch:=omega) only[push_cast,Nat.reduceEqDiff,h0,h1,h12,h13]
    exact finIs (by simp) rfl
theorem eqs_ok : ∀ n,EqFsOK n ∧ EqFOK n
  | 0 => ⟨fun w lo lo' l a a' c c' _ _ _ _ _ h => by omega,fun w lo lo' f a a' c c' _ _ _ _ _ h => by omega⟩
  | n + 1 => ⟨eqFields_step n (eqs_ok n).2,eqField_step n (eqs_ok n).1⟩
theorem eqField_walk (w : World) (lo lo' : Nat) (f : Fld) (a a' : Option Addr) (c c' : Nat) (hlo : lo ≤ w.heap.size) (hlo' : lo' ≤ w.heap.size) (hr : Rd w lo a f.sub) (hr' : Rd w lo' a' f.sub) (hl : f.sub.length ≤ 9223372036854775807) : Calls Tryz.prog 11 #[fldV f a c,fldV f a' c'] w (Rets w (Is (.bool true))) :=
  (eqs_ok (SizeOf.sizeOf f + 1)).2 w lo lo' f a a' c c' hlo hlo' hr hr' hl (by omega)
theorem eqFields_walk (w : World) (lo lo' : Nat) (l : List Fld) (a a' : Option Addr) (c c' : Nat) (hlo : lo ≤ w.heap.size) (hlo' : lo' ≤ w.heap.size) (hr : Rd w lo a l) (hr' : Rd w lo' a' l) (hl : l.length ≤ 9223372036854775807) : Calls Tryz.prog 22 #[.slice a l.length c,.slice a' l.length c'] w (Rets w (Is (.bool true))) :=
  (eqs_ok (SizeOf.sizeOf l + 1)).1 w lo lo' l a a' c c' hlo hlo' hr hr' hl (by omega)
end Go.Proofs.YtdmdgkpjjpijdaaGreatDoor
