/- YtdmdgkpjjpijdaaGreatDoor: walks, part 189: the reference's reader: lists of fields. -/
import Derived.Test.YtdmdgkpjjpijdaaGreatDoorW188
import Derived.Test.YtdmdgkpjjpijdaaGreatDoorW168
import Derived.Test.YtdmdgkpjjpijdaaGreatDoorW169
namespace Go.Proofs.YtdmdgkpjjpijdaaGreatDoor
open Go Go.K
set_option maxRecDepth 100000
set_option linter.unusedVariables false
set_option linter.unusedSimpArgs false
set_option maxHeartbeats 8000000
theorem runP_mono (f : UInt8 → Bool) (s : List UInt8) : ∀ (n p q : Nat),q - p = n → p ≤ q → runP f s p ≤ runP f s q
  | 0,p,q,hn,h => by
    obtain rfl : p = q := by omega
    exact Nat.le_refl _
  | n + 1,p,q,hn,h => by
    rcases Nat.lt_or_ge p s.length with hp | hp
    · have hd : s[p]? = some s[p] := List.getElem?_eq_getElem hp
      cases hf : f s[p] with
      | true =>
        rw [runP_step hd hf]
        exact runP_mono f s n (p + 1) q (by omega) (by omega)
      | false =>
        rw [runP_stop hd hf]
        exact Nat.le_trans h (runP_ge _ _ _)
    · rw [runP_end hp]
      exact Nat.le_trans h (runP_ge _ _ _)
theorem blP_mono {s : List UInt8} {p q : Nat} (h : p ≤ q) : blP s p ≤ blP s q := runP_mono _ _ _ _ _ rfl h
theorem StepR.bad {α : Type} {s : List UInt8} {ft : Int} {p : Nat} {r : PR α} {ok : α → Prop} {p' : Nat} {ft' : Int} (h : StepR s ft p r ok p' ft') (hf : 0 ≤ ft) : p ≤ p' ∧ p' ≤ s.length ∧ ft' = ft := by
  obtain ⟨h1,h2,⟨h3,_⟩ | ⟨_,_,h3⟩⟩ := h
  · omega
  · exact ⟨h1,h2,h3 hf⟩
theorem StepR.two {α : Type} {s : List UInt8} {ft : Int} {p : Nat} {r : PR α} {ok : α → Prop} {p' : Nat} {ft' : Int} (h : StepR s ft p r ok p' ft') : ft' = -1 ∨ 0 ≤ ft' := by
  obtain ⟨_,_,⟨_,h3,_⟩ | ⟨h3,_⟩⟩ := h
  · exact .inl h3
  · exact .inr h3
theorem StepR.bind {α β : Type} {s : List UInt8} {ft ft1 ft2 : Int} {p p1 p2 : Nat} {r : PR α} {ok : α → Prop} {f : α → Nat → PR β} {ok2 : β → Prop} (h : StepR s ft p r ok p1 ft1)
    (hg : ∀ x,ft = -1 → ft1 = -1 → ok x → r = .ok x (blP s p1) → StepR s (-1) p1 (f x (blP s p1)) ok2 p2 ft2) (hb : 0 ≤ ft1 → p1 ≤ p2 ∧ p2 ≤ s.length ∧ ft2 = ft1) : StepR s ft p (r.and f) ok2 p2 ft2 := by
  obtain ⟨h1,h2,⟨h3,h4,x,h5,h6⟩ | ⟨h3,h4,h5⟩⟩ := h
  · obtain ⟨g1,g2,⟨g3,g4,y,g5,g6⟩ | ⟨g3,g4,g5⟩⟩ := hg x h3 h4 h6 h5
    · exact ⟨by omega,g2,.inl ⟨h3,g4,y,by rw [h5,PR.and_ok,g5],g6⟩⟩
    · refine ⟨by omega,g2,.inr ⟨g3,fun _ => ?_,fun h => by omega⟩⟩
      obtain ⟨q,e1,e2⟩ := g4 rfl
      exact ⟨q,by rw [h5,PR.and_ok,e1],e2⟩
  · obtain ⟨b1,b2,b3⟩ := hb h3
    refine ⟨by omega,b2,.inr ⟨by omega,fun h => ?_,fun h => by have := h5 h; omega⟩⟩
    obtain ⟨q,e1,e2⟩ := h4 h
    exact ⟨q,by rw [e1,PR.and_no],by omega⟩
theorem StepR.pure {α : Type} {s : List UInt8} {p : Nat} {y : α} {ok : α → Prop} (hp : p ≤ s.length) (h : ok y) : StepR s (-1) p (.ok y (blP s p)) ok p (-1) := ⟨Nat.le_refl _,hp,.inl ⟨rfl,rfl,y,rfl,h⟩⟩
theorem StepR.of {α : Type} {s : List UInt8} {ft : Int} {p : Nat} {r : PR α} {ok : α → Prop} {p' : Nat} {ft' : Int} {ok' : α → Prop} (h : StepR s ft p r ok p' ft') (hk : ft' = -1 → ∀ x,ok x → ok' x) : StepR s ft p r ok' p' ft' := by
  obtain ⟨h1,h2,⟨h3,h4,x,h5,h6⟩ | h3⟩ := h
  · exact ⟨h1,h2,.inl ⟨h3,h4,x,h5,hk h4 x h6⟩⟩
  · exact ⟨h1,h2,.inr h3⟩
theorem infoIntN : (Tryz.prog.info? 3).map (fun i => (i.zero,i.size,i.bytes)) = some (some (i64 0),1,8) := by kernel_rfl
structure RfQ (wb w : World) (rb : Nat) (s : List UInt8) (p : Nat) (ft : Int) (N : List Nat) (nv : Value) (RN M : Own) : Prop where
  hs : s.length ≤ 65536
  hp : p ≤ s.length
  hft : ft = -1 ∨ 0 ≤ ft
  hrb : wb.heap.size ≤ rb
  hM : ∀ b ∈ M,wb.heap.size ≤ b.1
  hN : RowO wb 3 1 RN [] nv N.length (ints N)
  hNp : N.length ≤ p
  hw : Sy wb (oRr rb s p ft nv :: (RN ++ M)) w
def FieldV0 (wb : World) (rb : Nat) (s : List UInt8) (p : Nat) (ft : Int) (N : List Nat) (M : Own) (r : PR Fz) (x : Value) (L' : Own) : Prop :=
  ∃ (f : Fld) (a : Option Addr) (c : Nat) (K : Own) (p' : Nat) (ft' : Int) (N' : List Nat) (nv' : Value) (RN' : Own),x = .agg (f.cells a c).toArray ∧ OwF f K a c ∧ RowO wb 3 1 RN' [] nv' N'.length (ints N') ∧ N'.length ≤ p' ∧ (∀ b ∈ K,wb.heap.size ≤ b.1) ∧ StepR s ft p r (fun y => f = y.1 ∧ N' = N ++ preP y.2) p' ft' ∧ L' = oRr rb s p' ft' nv' :: (RN' ++ (K ++ M))
def ListV0 (wb : World) (rb : Nat) (s : List UInt8) (p : Nat) (ft : Int) (N : List Nat) (M : Own) (r : PR (List Fz)) (x : Value) (L' : Own) : Prop :=
  ∃ (l : List Fld) (a : Option Addr) (c : Nat) (K : Own) (p' : Nat) (ft' : Int) (N' : List Nat) (nv' : Value) (RN' : Own),x = .slice a l.length c ∧ OwS l K a c ∧ RowO wb 3 1 RN' [] nv' N'.length (ints N') ∧ N'.length ≤ p' ∧ (∀ b ∈ K,wb.heap.size ≤ b.1) ∧ StepR s ft p r (fun y => l = y.map (·.1) ∧ N' = N ++ preL (y.map (·.2))) p' ft' ∧ L' = oRr rb s p' ft' nv' :: (RN' ++ (K ++ M))
def FieldRR (d : Nat) : Prop := ∀ (wb w : World) (rb : Nat) (s : List UInt8) (p : Nat) (ft : Int) (N : List Nat) (nv : Value) (RN M : Own),RfQ wb w rb s p ft N nv RN M → s.length - blP s p < d →
  Calls Tryz.prog 50 #[.pointer (some ⟨rb,0,none⟩)] w (fun e w' => ∃ x L',e = .returned x ∧ Sy wb L' w' ∧ FieldV0 wb rb s p ft N M (pField s d (blP s p)) x L')
def manyP (s : List UInt8) (F : Nat → PR Fz) (nb : Bool) (q : Nat) : PR (List Fz) := if nb = true ∧ s[q]? = some 41 then .ok [] q else pMany s F (s.length + 1) q
def ManyRR (d : Nat) : Prop := ∀ (wb w : World) (rb : Nat) (s : List UInt8) (p : Nat) (ft : Int) (N : List Nat) (nv : Value) (RN M : Own) (nb : Bool),RfQ wb w rb s p ft N nv RN M → s.length - blP s p < d →
  Calls Tryz.prog 42 #[.pointer (some ⟨rb,0,none⟩),.bool nb] w (fun e w' => ∃ x L',e = .returned x ∧ Sy wb L' w' ∧ ListV0 wb rb s p ft N M (manyP s (pField s d) nb (blP s p)) x L')
def tailM (s : List UInt8) (F : Nat → PR Fz) (m : Nat) (q : Nat) : PR (List Fz) := match pSign s 44 q with
  | none => .ok [] q
  | some r2 => pMany s F m r2
theorem pMany_tail (s : List UInt8) (F : Nat → PR Fz) (m q : Nat) : pMany s F (m + 1) q = (F q).and fun x r => (tailM s F m r).and fun l r3 => .ok (x :: l) r3 := by
  rw [pMany]
  congr 1
  funext x r
  unfold tailM
  cases pSign s 44 r with
  | none => rfl
  | some r2 => rfl
def LpR (s : List UInt8) (F : Nat → PR Fz) (ft0 : Int) (N : List Nat) (T : PR (List Fz)) (p : Nat) (ft : Int) (l : List Fld) (N' : List Nat) : Prop :=
  (ft0 = -1 ∧ ft = -1 ∧ ∃ (ys : List Fz) (m : Nat),l = ys.map (·.1) ∧ N' = N ++ preL (ys.map (·.2)) ∧ s.length - p < m ∧ T = (tailM s F m (blP s p)).and fun l r => .ok (ys ++ l) r) ∨ (0 ≤ ft ∧ (ft0 = -1 → ∃ q : Nat,T = .no q ∧ ft = q) ∧ (0 ≤ ft0 → ft = ft0))
theorem preL_single (x : Sp) : preL [x] = preP x := by rw [preL,preL,List.append_nil]
theorem LpR.step {s : List UInt8} {F : Nat → PR Fz} {ft0 ft ft' : Int} {N N' N'' : List Nat} {T : PR (List Fz)} {ys : List Fz} {m p p' : Nat} {f : Fld} (hm : s.length - p < m + 1) (h0 : ft0 = -1 → ft = -1 ∧ T = (pMany s F (m + 1) (blP s p)).and fun l r => .ok (ys ++ l) r) (hft : 0 ≤ ft0 → ft = ft0) (hN : ft0 = -1 → N' = N ++ preL (ys.map (·.2)))
    (h : StepR s ft p (F (blP s p)) (fun y => f = y.1 ∧ N'' = N' ++ preP y.2) p' ft') (hlt : ft' = -1 → p < p') (hl : ft0 = -1 ∨ 0 ≤ ft0) {l : List Fld} (hl2 : ft0 = -1 → l = ys.map (·.1)) : LpR s F ft0 N T p' ft' (l ++ [f]) N'' := by
  obtain ⟨h1,h2,⟨h3,h4,x,h5,h6,h7⟩ | ⟨h3,h4,h5⟩⟩ := h
  · have hf0 : ft0 = -1 := by
      rcases hl with h | h
      · exact h
      · have := hft h; omega
    have hlt' := hlt h4
    refine .inl ⟨hf0,h4,ys ++ [x],m,?_,?_,by omega,?_⟩
    · rw [hl2 hf0,List.map_append,h6]; rfl
    · rw [h7,hN hf0,List.map_append,preL_append,List.map_cons,List.map_nil,preL_single,List.append_assoc]
    · rw [(h0 hf0).2,pMany_tail,h5,PR.and_ok,PR.and_and]
      congr 1
      funext l r
      simp [PR.and]
  · refine .inr ⟨h3,fun h => ?_,fun h => ?_⟩
    · obtain ⟨e1,e2⟩ := h0 h
      obtain ⟨q,e3,e4⟩ := h4 e1
      exact ⟨q,by rw [e2,pMany_tail,e3,PR.and_no,PR.and_no],e4⟩
    · have e1 := hft h
      have := h5 (by omega)
      omega
structure Fs1 (w0 : World) (rb b6 b7 : Nat) (nb : Bool) (L0 : Own) (Pr : Prop) (wb : World) (e : Env) (ds : List Deferred) (L : Own) : Prop where
  hw : wb = w0
  hds : ds = []
  h0 : e 0 = .pointer (some ⟨rb,0,none⟩)
  h1 : e 1 = .bool nb
  h5 : e 5 = .slice (some ⟨b7,0,none⟩) 0 0
  h6 : e 6 = .pointer (some ⟨b6,0,none⟩)
  hL : L = L0
  pr : Pr
structure FmI (w0 : World) (rb : Nat) (s : List UInt8) (d : Nat) (ft0 : Int) (N : List Nat) (T : PR (List Fz)) (p0 : Nat) (M : Own) (p : Nat) (wb : World) (e : Env) (ds : List Deferred) (L : Own) : Prop where
  hw : wb = w0
  hds : ds = []
  hp0 : p0 ≤ p
  hp : p ≤ s.length
  h0 : e 0 = .pointer (some ⟨rb,0,none⟩)
  o : ∃ (v : Value) (R K : Own) (l : List Fld) (cs : List Value) (ft : Int) (N' : List Nat) (nv : Value) (RN : Own),e 5 = v ∧ RowO w0 37 7 R [] v l.length cs ∧ OwK l K cs ∧ (∀ b ∈ K,w0.heap.size ≤ b.1) ∧ RowO w0 3 1 RN [] nv N'.length (ints N') ∧ N'.length ≤ p ∧ l.length ≤ p + 1 ∧ LpR s (pField s d) ft0 N T p ft l N' ∧ L = oRr rb s p ft nv :: (RN ++ (R ++ (K ++ M)))
theorem pr_id {α : Type} (r : PR (List α)) : (r.and fun l q => PR.ok ([] ++ l) q) = r := by cases r <;> rfl
theorem LpR.done {s : List UInt8} {F : Nat → PR Fz} {ft0 ft : Int} {N N' : List Nat} {T : PR (List Fz)} {p0 p : Nat} {l : List Fld} (h : LpR s F ft0 N T p ft l N') (hn : ¬ (ft = -1 ∧ s[blP s p]? = some 44)) (h0 : p0 ≤ p) (hp : p ≤ s.length) :
    StepR s ft0 p0 T (fun y => l = y.map (·.1) ∧ N' = N ++ preL (y.map (·.2))) p ft := by
  rcases h with ⟨h1,h2,ys,m,h3,h4,_,h5⟩ | ⟨h1,h2,h3⟩
  · refine ⟨h0,hp,.inl ⟨h1,h2,ys,?_,h3,h4⟩⟩
    have ht : tailM s F m (blP s p) = .ok [] (blP s p) := by
      unfold tailM pSign
      rw [if_neg (fun h => hn ⟨h2,h⟩)]
    rw [h5,ht,PR.and_ok,List.append_nil]
  · exact ⟨h0,hp,.inr ⟨h1,h2,h3⟩⟩
theorem step_lt {s : List UInt8} {F : Nat → PR Fz} (hG : Goes s F) {ft : Int} {p : Nat} {ok : Fz → Prop} {p' : Nat} {ft' : Int} (hp : p ≤ s.length) (h : StepR s ft p (F (blP s p)) ok p' ft') (hf : ft' = -1) : p < p' := by
  obtain ⟨h1,h2,⟨h3,h4,x,h5,h6⟩ | ⟨h3,_⟩⟩ := h
  · have g1 : blP s p < blP s p' := (hG _ _ _ (runP_le hp) h5).1
    rcases Nat.lt_or_ge p p' with h | h
    · exact h
    · have := blP_mono (s := s) h
      omega
  · omega
theorem manyR_step (d : Nat) (hF : FieldRR d) : ManyRR d := by
  intro wb w rb s p ft N nv RN M nb hQ hd
  have hs := hQ.hs
  have hp := hQ.hp
  have hsee : ∀ (M : Own) w',Sy wb (oRr rb s p ft nv :: M) w' → Calls Tryz.prog 41 #[.pointer (some ⟨rb,0,none⟩)] w' (Rets w' (Is (.agg (tokP s p).cells))) := fun M w' hw' => seeR_walk w' rb s p hs hp (At.of_own hw' (.head _) rfl)
  have h41 := tok_sign (s := s) (p := p) (c := 41) (by decide)
  generalize tokP s p = t at h41 hsee
  refine enterB (args := [.pointer (some ⟨rb,0,none⟩),.bool nb]) Tryz.func42 rfl Tryz.ntmps42 (congrArg Array.toList Tryz.results42) (by kernel_rfl) (by simp) hQ.hw ?_
  simp (disch:=omega) only[push_cast,Nat.reduceEqDiff]
  refine makeEmpty un_24 (size := 7) (by kernel_rfl) (newI fun b7 hb7 hn7 => ?_)
  simp (disch:=omega) only[push_cast,Nat.reduceEqDiff]
  refine callV en_41 (callX_weak (L' := oRr rb s p ft nv :: (RN ++ ((b7,Obj.cells #[] 37 (0,0)) :: M))) (fun w hw => hw.perm (permC fun f => by simp only [wt_append,wt_cons,wt_nil]; omega)) (callX_is (v := .agg t.cells) (fun w' hw' => hsee _ w' hw') ?_))
  have h41' : ((t.k : Int) = 2 ∧ t.tx = [41]) ↔ s[blP s p]? = some 41 := ⟨fun h => h41.1 ⟨by omega,h.2⟩,fun h => ⟨by have := (h41.2 h).1; omega,(h41.2 h).2⟩⟩
  simp (disch:=omega) only[push_cast,Nat.reduceEqDiff]
  refine newI (fun b6 hb6 hn6 => ?_)
  simp (disch:=omega) only[push_cast,Nat.reduceEqDiff]
  refine storeX 0 rfl Siz.eq rfl rfl (by simp [Value.oneCell']) (by simp) ?_
  refine cutL (Fs1 wb rb b6 b7 nb (oTk b6 t.k t.tx t.at_ t.nx t.ft :: oRr rb s p ft nv :: (RN ++ ((b7,Obj.cells #[] 37 (0,0)) :: M))) True) ?_ ?_
  · simp (disch:=omega) only[push_cast,Nat.reduceEqDiff]
    exact ⟨rfl,rfl,rfl,rfl,rfl,rfl,rfl,trivial⟩
  rintro wb e ds L ⟨rfl,rfl,h0,h1,h5,h6,rfl,_⟩
  rw [V_seq]
  refine cutV (Fs1 wb rb b6 b7 nb (oTk b6 t.k t.tx t.at_ t.nx t.ft :: oRr rb s p ft nv :: (RN ++ ((b7,Obj.cells #[] 37 (0,0)) :: M))) (¬ (nb = true ∧ s[blP s p]? = some 41))) ?_ ?_
  · simp (disch:=omega) only[push_cast,Nat.reduceEqDiff,h0,h1,h5,h6]
    refine guardX_bt rfl (fun hnb => ?_) (fun hnb => ?_)
    rotate_left
    · simp (disch:=omega) only[push_cast,Nat.reduceEqDiff,h0,h1,h5,h6]
      rw [V_cond]
      simp (disch:=omega) only[push_cast,Nat.reduceEqDiff,h0,h1,h5,h6]
      exact ⟨rfl,rfl,h0,by simpa [upd,hnb] using h1,h5,h6,rfl,fun h => by rw [hnb] at h; cases h.1⟩
    simp (disch:=omega) only[push_cast,Nat.reduceEqDiff,h0,h1,h5,h6]
    refine ldOne Shp.eq mem0 rfl ?_
    simp (disch:=omega) only[push_cast,Nat.reduceEqDiff,h0,h1,h5,h6]
    refine guardX_t rfl (fun hk => ?_) (fun hk => ?_)
    rotate_left
    · simp (disch:=omega) only[push_cast,Nat.reduceEqDiff,h0,h1,h5,h6]
      rw [V_cond]
      simp (disch:=omega) only[push_cast,Nat.reduceEqDiff,h0,h1,h5,h6]
      exact ⟨rfl,rfl,h0,by simpa [upd] using h1,h5,h6,rfl,fun h => hk (h41'.2 h.2).1⟩
    simp (disch:=omega) only[push_cast,Nat.reduceEqDiff,h0,h1,h5,h6]
    refine ldOne Shp.eq mem0 rfl ?_
    simp (disch:=omega) only[push_cast,Nat.reduceEqDiff,h0,h1,h5,h6]
    rw [V_cond]
    simp (disch:=omega) only[push_cast,Nat.reduceEqDiff,h0,h1,h5,h6]
    refine condX_d (fun hx => ?_) (fun hx => ?_)
    · have hsc := h41'.1 ⟨hk,hx⟩
      simp (disch:=omega) only[push_cast,Nat.reduceEqDiff,h0,h1,h5,h6]
      refine fun w' hw' => ⟨_,oRr rb s p ft nv :: (RN ++ ([(b7,Obj.cells #[] 37 (0,0))] ++ M)),rfl,Sy.left (A := [oTk b6 t.k t.tx t.at_ t.nx t.ft]) hw' (fun b hb => by rw [List.mem_singleton.1 hb]; exact hb6),[],some ⟨b7,0,none⟩,0,[(b7,Obj.cells #[] 37 (0,0))],p,ft,N,nv,RN,rfl,(OwS_iff _ _ _ _).2 (.inr ⟨b7,0,[],[],[],rfl,rfl,Nat.le_refl _,Nat.le_refl _,.inl rfl,by omega,rfl,rfl,OwK.nil⟩),hQ.hN,hQ.hNp,fun b hb => by rw [List.mem_singleton.1 hb]; exact hb7,⟨Nat.le_refl _,hp,?_⟩,rfl⟩
      rcases hQ.hft with h | h
      · refine .inl ⟨h,h,[],?_,rfl,by simp [preL]⟩
        unfold manyP
        rw [if_pos ⟨hnb,hsc⟩]
      · exact .inr ⟨h,fun h2 => by omega,fun _ => rfl⟩
    · simp (disch:=omega) only[push_cast,Nat.reduceEqDiff,h0,h1,h5,h6]
      exact ⟨rfl,rfl,h0,by simpa [upd] using h1,h5,h6,rfl,fun h => hx (h41'.2 h.2).2⟩
  rintro wb e ds L ⟨rfl,rfl,h0,h1,h5,h6,rfl,hnb⟩
  have hM7 : ∀ b ∈ [(b7,Obj.cells #[] 37 (0,0))] ++ ([] ++ M),wb.heap.size ≤ b.1 := fun b hb => by
    rcases List.mem_append.1 hb with hb | hb
    · rw [List.mem_singleton.1 hb]; exact hb7
    · exact hQ.hM b (by simpa using hb)
  have hR : RowO wb 37 7 [(b7,Obj.cells #[] 37 (0,0))] [] (.slice (some ⟨b7,0,none⟩) 0 0) 0 [] := ⟨rfl,.inr ⟨b7,0,[],rfl,rfl,hb7,Nat.le_refl _,Nat.zero_le _,rfl,rfl⟩⟩
  simp (disch:=omega) only[push_cast,Nat.reduceEqDiff,h0,h1,h5,h6]
  refine callV en_50 (callX_weak (L' := oRr rb s p ft nv :: (RN ++ ([(b7,Obj.cells #[] 37 (0,0))] ++ (([] : Own) ++ M)))) (fun w hw => Sy.left (A := [oTk b6 t.k t.tx t.at_ t.nx t.ft]) hw (fun b hb => by rw [List.mem_singleton.1 hb]; exact hb6)) (callX_own (S := FieldV0 wb rb s (p) ft N ([(b7,Obj.cells #[] 37 (0,0))] ++ (([] : Own) ++ M)) (pField s d (blP s (p)))) (fun w' hw' => hF wb w' rb s (p) ft N nv RN ([(b7,Obj.cells #[] 37 (0,0))] ++ (([] : Own) ++ M)) ⟨hs,hp,hQ.hft,hQ.hrb,hM7,hQ.hN,hQ.hNp,hw'⟩ hd) (fun v9 L9 hv9 => ?_)))
  (refine Exists.elim (hv9) (fun f hz => Exists.elim hz (fun fa hz => Exists.elim hz (fun fc hz => Exists.elim hz (fun Kf hz => Exists.elim hz (fun p' hz => Exists.elim hz (fun ft' hz => Exists.elim hz (fun N2 hz => Exists.elim hz (fun nv2 hz => Exists.elim hz (fun RN2 hz => ?_))))))))); have ez := hz.1; subst ez; have hO := hz.2.1; have hN2 := hz.2.2.1; have hNp2 := hz.2.2.2.1; have hKf := hz.2.2.2.2.1; have hst := hz.2.2.2.2.2.1; have ez := hz.2.2.2.2.2.2; subst ez; clear hz)
  simp (disch:=omega) only[push_cast,Nat.reduceEqDiff,h0,h1,h5,h6,Fld.cells]
  refine bs_24_1 (newI fun b8 hb8 hn8 => ?_)
  simp (disch:=omega) only[push_cast,Nat.reduceEqDiff,h0,h1,h5,h6]
  refine valX_weak (L' := [(b7,Obj.cells #[] 37 (0,0))] ++ (oFi b8 f fa fc :: oRr rb s p' ft' nv2 :: (RN2 ++ (Kf ++ (([] : Own) ++ M))))) (fun w hw => hw.perm (permC (fun f => by simp only [wt_append,wt_cons,wt_nil]; omega) : List.Perm (oFi b8 f fa fc :: oRr rb s p' ft' nv2 :: (RN2 ++ (Kf ++ ([(b7,Obj.cells #[] 37 (0,0))] ++ (([] : Own) ++ M))))) _)) (appendI un_24 infoFldC rfl (m := 1) (news := f.cells fa fc) (RowO.frame hR) rfl (CanRead.of_own (e := 37) (b := b8) (cs := f.cells fa fc) (n := 7) (List.mem_append_right _ (.head _)) rfl rfl) (by simp [Value.oneCell',Fld.cells]) (by simp only [maxLen]; omega) (by omega) (fun v5 L5 hro5 _ => ?_))
  (refine Exists.elim (RowO.unframe hro5) (fun R3 hz => ?_); have ez := hz.1; subst ez; have hR3 := hz.2; clear hz)
  have hR3n : ∀ b ∈ R3,wb.heap.size ≤ b.1 := RowO.new hR3 (by simp)
  simp (disch:=omega) only[push_cast,Nat.reduceEqDiff,h0,h1,h5,h6]
  have hlt := fun h => step_lt (pField_goes s d) hp hst h
  have hT : manyP s (pField s d) nb (blP s p) = pMany s (pField s d) (s.length + 1) (blP s p) := by unfold manyP; rw [if_neg hnb]
  have hLp : LpR s (pField s d) ft N (manyP s (pField s d) nb (blP s p)) p' ft' ([] ++ [f]) N2 := LpR.step (ys := []) (m := s.length) (by omega) (fun h => ⟨h,by rw [hT,pr_id]⟩) (fun _ => rfl) (fun _ => by simp [preL]) hst hlt hQ.hft (fun _ => rfl)
  rw [V_block]
  simp (disch:=omega) only[push_cast,Nat.reduceEqDiff,h0,h1,h5,h6]
  refine loopW (G := Nat) (FmI wb rb s d ft N (manyP s (pField s d) nb (blP s p)) p M) (fun p => s.length - p) p' (oRr rb s p' ft' nv2 :: (RN2 ++ (R3 ++ (Kf ++ M)))) (fun w hw => Sy.left (A := [oFi b8 f fa fc]) (hw.perm (permC (fun f => by simp only [wt_append,wt_cons,wt_nil]; omega) : List.Perm (R3 ++ (oFi b8 f fa fc :: oRr rb s p' ft' nv2 :: (RN2 ++ (Kf ++ M)))) ([oFi b8 f fa fc] ++ (oRr rb s p' ft' nv2 :: (RN2 ++ (R3 ++ (Kf ++ M))))))) (fun b hb => by rw [List.mem_singleton.1 hb]; exact hb8)) (by kernel_rfl) ⟨rfl,rfl,hst.1,hst.2.1,h0,v5,R3,Kf,[f],f.cells fa fc,ft',N2,nv2,RN2,rfl,hR3.cast (by simp) (by simp),OwK.single hO,hKf,hN2,hNp2,?_,hLp,rfl⟩ ?_
  · show 1 ≤ p' + 1
    omega
  clear hLp hst hNp2 hN2 hKf hR3n hR3 hO hR hM7 hsee h0 h1 h5 h6
  rintro i wb e ds L ⟨rfl,rfl,hpi,hi,h0,v,R,K,l,cs,fti,Ni,nvi,RNi,h5,hR,hK,hKn,hNi,hNpi,hlp,hLp,rfl⟩
  have hfti : fti = -1 ∨ 0 ≤ fti := by
    rcases hLp with ⟨_,h,_⟩ | ⟨h,_⟩
    · exact .inl h
    · exact .inr h
  have hRn : ∀ b ∈ R,wb.heap.size ≤ b.1 := RowO.new hR (by simp)
  simp (disch:=omega) only[push_cast,Nat.reduceEqDiff,h0,h5]
  refine callV en_43 (callX_two (fun L' => fti = -1 ∧ s[blP s i]? = some 44 ∧ L' = oRr rb s ((blP s i + 1 : Nat) : Int) fti nvi :: (RNi ++ (R ++ (K ++ M)))) (fun L' => ¬ (fti = -1 ∧ s[blP s i]? = some 44) ∧ L' = oRr rb s i fti nvi :: (RNi ++ (R ++ (K ++ M)))) (fun w' hw' => signR_walk wb w' rb s i fti nvi _ 44 (by decide) hs hi hfti hQ.hrb hw') (fun L' hL' => ?_) (fun L' hL' => ?_))
  · have g1 := hL'.1
    have g2 := hL'.2.1
    have g3 := hL'.2.2
    subst g3
    clear hL'
    have hlt4 := (List.getElem?_eq_some_iff.1 g2).1
    have hbi : i ≤ blP s i := runP_ge _ _ _
    obtain ⟨q1,ys,m,q3,q4,q5,q6⟩ : ft = -1 ∧ ∃ (ys : List Fz) (m : Nat),l = ys.map (·.1) ∧ Ni = N ++ preL (ys.map (·.2)) ∧ s.length - i < m ∧ manyP s (pField s d) nb (blP s p) = (tailM s (pField s d) m (blP s i)).and fun l r => .ok (ys ++ l) r := by
      rcases hLp with ⟨h1,_,h3⟩ | ⟨h1,_⟩
      · exact ⟨h1,h3⟩
      · omega
    obtain ⟨m,rfl⟩ : ∃ k,m = k + 1 := ⟨m - 1,by omega⟩
    have htl : tailM s (pField s d) (m + 1) (blP s i) = pMany s (pField s d) (m + 1) (blP s (blP s i + 1)) := by
      unfold tailM pSign
      rw [if_pos g2]
    have hmeas : s.length - blP s (blP s i + 1) < d := by
      have := blP_mono (s := s) (show p ≤ blP s i + 1 by omega)
      omega
    have hM7 : ∀ b ∈ R ++ (K ++ M),wb.heap.size ≤ b.1 := fun b hb => by
      simp only [List.mem_append] at hb
      rcases hb with hb | hb | hb
      · exact hRn b hb
      · exact hKn b hb
      · exact hQ.hM b hb
    subst g1
    simp (disch:=omega) only[push_cast,Nat.reduceEqDiff,h0,h5]
    rw [V_cond]
    simp (disch:=omega) only[push_cast,Nat.reduceEqDiff,h0,h5]
    rw [V_block]
    simp (disch:=omega) only[push_cast,Nat.reduceEqDiff,h0,h5]
    refine callV en_50 (callX_own (S := FieldV0 wb rb s (blP s i + 1) (-1) Ni (R ++ (K ++ M)) (pField s d (blP s (blP s i + 1)))) (fun w' hw' => hF wb w' rb s (blP s i + 1) (-1) Ni nvi RNi (R ++ (K ++ M)) ⟨hs,by omega,.inl rfl,hQ.hrb,hM7,hNi,by omega,hw'⟩ hmeas) (fun v9 L9 hv9 => ?_))
    (refine Exists.elim (hv9) (fun f hz => Exists.elim hz (fun fa hz => Exists.elim hz (fun fc hz => Exists.elim hz (fun Kf hz => Exists.elim hz (fun p' hz => Exists.elim hz (fun ft' hz => Exists.elim hz (fun N2 hz => Exists.elim hz (fun nv2 hz => Exists.elim hz (fun RN2 hz => ?_))))))))); have ez := hz.1; subst ez; have hO := hz.2.1; have hN2 := hz.2.2.1; have hNp2 := hz.2.2.2.1; have hKf := hz.2.2.2.2.1; have hst := hz.2.2.2.2.2.1; have ez := hz.2.2.2.2.2.2; subst ez; clear hz)
    simp (disch:=omega) only[push_cast,Nat.reduceEqDiff,h0,h5,Fld.cells]
    refine bs_24_1 (newI fun b8 hb8 hn8 => ?_)
    simp (disch:=omega) only[push_cast,Nat.reduceEqDiff,h0,h5]
    refine valX_weak (L' := R ++ (oFi b8 f fa fc :: oRr rb s p' ft' nv2 :: (RN2 ++ (Kf ++ (K ++ M))))) (fun w hw => hw.perm (permC (fun f => by simp only [wt_append,wt_cons,wt_nil]; omega) : List.Perm (oFi b8 f fa fc :: oRr rb s p' ft' nv2 :: (RN2 ++ (Kf ++ (R ++ (K ++ M))))) _)) (appendI un_24 infoFldC rfl (m := 1) (news := f.cells fa fc) (RowO.frame hR) rfl (CanRead.of_own (e := 37) (b := b8) (cs := f.cells fa fc) (n := 7) (List.mem_append_right _ (.head _)) rfl rfl) (by simp [Value.oneCell',Fld.cells]) (by simp only [maxLen]; omega) (by omega) (fun v5 L5 hro5 _ => ?_))
    (refine Exists.elim (RowO.unframe hro5) (fun R3 hz => ?_); have ez := hz.1; subst ez; have hR3 := hz.2; clear hz)
    have hR3n : ∀ b ∈ R3,wb.heap.size ≤ b.1 := RowO.new hR3 (by simp)
    simp (disch:=omega) only[push_cast,Nat.reduceEqDiff,h0,h5]
    have hlt := fun h => step_lt (pField_goes s d) (by omega) hst h
    have hLp2 : LpR s (pField s d) ft N (manyP s (pField s d) nb (blP s p)) p' ft' (l ++ [f]) N2 := LpR.step (ys := ys) (m := m) (by omega) (fun h => ⟨rfl,by rw [q6,htl]⟩) (fun h => by omega) (fun _ => q4) hst hlt hQ.hft (fun _ => q3)
    have hst1 := hst.1
    have hst2 := hst.2.1
    exact ⟨p',oRr rb s p' ft' nv2 :: (RN2 ++ (R3 ++ ((K ++ Kf) ++ M))),fun w hw => Sy.left (A := [oFi b8 f fa fc]) (hw.perm (permC (fun f => by simp only [wt_append,wt_cons,wt_nil]; omega) : List.Perm (R3 ++ (oFi b8 f fa fc :: oRr rb s p' ft' nv2 :: (RN2 ++ (Kf ++ (K ++ M))))) ([oFi b8 f fa fc] ++ (oRr rb s p' ft' nv2 :: (RN2 ++ (R3 ++ ((K ++ Kf) ++ M))))))) (fun b hb => by rw [List.mem_singleton.1 hb]; exact hb8),⟨rfl,rfl,by omega,hst2,h0,v5,R3,K ++ Kf,l ++ [f],cs ++ f.cells fa fc,ft',N2,nv2,RN2,rfl,hR3.cast (by simp) rfl,OwK.append (OwK.single hO) hK,fun b hb => (List.mem_append.1 hb).elim (hKn b) (hKf b),hN2,hNp2,by rw [List.length_append,List.length_singleton]; omega,hLp2,rfl⟩,by omega⟩
  · have g1 := hL'.1
    have g3 := hL'.2
    subst g3
    clear hL'
    simp (disch:=omega) only[push_cast,Nat.reduceEqDiff,h0,h5]
    rw [V_cond]
    simp (disch:=omega) only[push_cast,Nat.reduceEqDiff,h0,h5]
    have hdone := hLp.done g1 hpi hi
    obtain ⟨a3,c3,rfl,o1⟩ := row_fields hR hK
    exact fun w' hw' => ⟨_,oRr rb s i fti nvi :: (RNi ++ ((R ++ K) ++ M)),rfl,by rw [List.append_assoc]; exact hw',l,a3,c3,R ++ K,i,fti,Ni,nvi,RNi,rfl,o1,hNi,hNpi,fun b hb => (List.mem_append.1 hb).elim (hRn b) (hKn b),hdone,rfl⟩
end Go.Proofs.YtdmdgkpjjpijdaaGreatDoor
